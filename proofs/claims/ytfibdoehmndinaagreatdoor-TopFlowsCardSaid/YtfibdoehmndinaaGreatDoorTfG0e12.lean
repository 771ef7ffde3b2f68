/- Parts of a proof, joined. No condition but those that each theorem names. -/
import Derived.Deep.DeepCutAuto
import Derived.Test.YtfibdoehmndinaaGreatDoorTfG0e4
import Derived.Test.YtfibdoehmndinaaGreatDoorTfG0e11
namespace Go.Proofs.YtfibdoehmndinaaGreatDoor
open Go.RowKit
set_option linter.unusedVariables false
section
variable {p:Prop}
theorem uKA (h:p:=by
 go_wp2_with fail;refine⟨rfl,?_⟩;rw[←HPO.o,HRT.o];exact⟨rfl,HB2.o⟩):p:=h
end
theorem zD {T:Type} (l:List T) (k:Nat) (d:T) (h:k<l.length):l.drop k=l.getD k d::l.drop (k+1):=by
 rw[List.drop_eq_getElem_cons h,List.getD_eq_getElem?_getD,List.getElem?_eq_getElem h];rfl
theorem z8M {L:List ByteArray} {d:Nat} {l:List TSt} (h:∀s∈l,stIn L d s) (k:Nat) (hk:k<l.length):stIn L d (l.getD k zJ):=h _ (by
 rw[List.getD_eq_getElem?_getD,List.getElem?_eq_getElem hk];exact List.getElem_mem hk)
set_option maxRecDepth 100000
set_option maxHeartbeats 1000000
theorem zkF {k:Nat} (hw:zOI k):∀B B0 fr fb nb Nf n d d' L F env bs m l v W,EvAt W B B0 fr fb nb Nf n L F env bs m→zj (zM d) W B v l→(∀s∈l,stIn L d' s)→l.length≤65536→zK (k+1) F env m l≠.bad →
  Calls Tryz.prog 24 #[.pointer (some ⟨fr,0,none⟩),v] W (zse W B0 nb L bs m (zK (k+1) F env m l)):=by
 intro B B0 fr fb nb Nf n d d' L F env bs m l v W hev hl hin hlen hbad;unfold zK at hbad ⊢;obtain⟨A,c,rfl,hc⟩:=hl.shape;have HEV:=hI hev;have HL:=hI hl;have HIN:=hI hin;have HST:=hI hw.stmt;have hB:B≤W.heap.size:=Nat.le_trans hev.le.1 hev.le.2;have HBW:=hI hB;obtain⟨r,hr⟩:∃r,tRun (fun env m s=>z8H k F env m s) 0 env m l=r:=⟨_,rfl⟩
 rw[hr] at hbad ⊢;have HR0:Jd (tRun (fun env m s=>z8H k F env m s) 0 env m (l.drop 0)=r):=hI hr;have HBAD:=hI hbad;generalize hPO:zse W B0 nb L bs m r=PO;have HPO:=hI hPO;clear hev hl hin hw hbad hr hPO hc hB;go_enter Tryz.func24,Tryz.ntmps24;go_wp2_with fail;go_loopw [5,10] (fun vv vi wr=>∃(i:Nat) (v:Int) (env':TEnv) (bs':List Nat) (m':TMem),i≤l.length∧vi=.int .i64 i∧vv=.int .i64 v∧zNS W B0 nb L bs m wr env' bs' m'∧Jd (tRun (fun env m s=>z8H k F env m s) v env' m' (l.drop i)=r)) (fun _ vi _=>l.length-(intOf vi).toNat)
 case atStart=>exact⟨0,0,env,bs,m,Nat.zero_le _,rfl,rfl,HEV.o.okS (Below.refl _ _),HR0⟩
 case round =>
  obtain⟨i,v,env',bs',m',hi,rfl,rfl,hok,HR⟩:=hrel;have HOK:=hI hok;have HEr:=hI (HEV.o.stepS hok);have HBr:=hI (HEV.o.belowS hok);clear hok;by_cases hlt:i<l.length
  · obtain⟨d1,b,off,va,vb,ve,rfl,rfl,hb0,hnm,hxa,hxb,hxe,hcell⟩:=zM1 (HL.o.below (HBr.o.mono HEV.o.le.1) (Nat.le_refl _)) i hlt;obtain⟨Aa,ca,rfl,_⟩:=hxa.shape;obtain⟨Ab,cb,rfl,_⟩:=hxb.shape;obtain⟨Ae,ce,rfl,_⟩:=hxe.shape;have hsn:=z8M HIN.o i hlt;have hdr:=zD l i zJ hlt;have hR:=HR.o;rw[hdr] at hR;generalize l.getD i zJ=s at *;have x0:=hcell 0 _ rfl;have x1:=hcell 1 _ rfl;have x2:=hcell 2 _ rfl;have x3:=hcell 3 _ rfl;have x4:=hcell 4 _ rfl;have x5:=hcell 5 _ rfl;have x6:=hcell 6 _ rfl;have x7:=hcell 7 _ rfl;have x8:=hcell 8 _ rfl;have x9:=hcell 9 _ rfl;have x10:=hcell 10 _ rfl;rw[Nat.add_zero] at x0;have hbA:=bnew wr (.cells (zTK s (.slice Aa s.args.length ca) (.slice Ab s.body.length cb) (.slice Ae s.els.length ce)).toArray 126);have HEA:=hI (HEr.o.stepS (HEr.o.okS hbA));have HOKA:=hI (HOK.o.trans (HEr.o.okS hbA));have HXA:=hI (heap_alloc_new wr (.cells (zTK s (.slice Aa s.args.length ca) (.slice Ab s.body.length cb) (.slice Ae s.els.length ce)).toArray 126));have hxa1:=hxa.below (HEr.o.belowS (HEr.o.okS hbA) |>.mono HEr.o.le.1) (Nat.le_refl _);have hxb1:=hxb.below (HEr.o.belowS (HEr.o.okS hbA) |>.mono HEr.o.le.1) (Nat.le_refl _);have hxe1:=hxe.below (HEr.o.belowS (HEr.o.okS hbA) |>.mono HEr.o.le.1) (Nat.le_refl _);have hbd:z8H k F env' m' s≠.bad:=fun e=>HBAD.o (by rw[←hR];show (z8H k F env' m' s).bind _=_;rw[e];rfl)
    have HC:=hI (HST.o B B0 fr fb nb Nf n d1 d' L F env' bs' m' s (.slice Aa s.args.length ca) (.slice Ab s.body.length cb) (.slice Ae s.els.length ce) _ HEA.o hnm hxa1 hxb1 hxe1 hsn hbd);have HR1:Jd ((z8H k F env' m' s).bind (fun q=>tRun (fun env m s=>z8H k F env m s) q.1 q.2.1 q.2.2 (l.drop (i+1)))=r):=hI hR;unfold zTK at HC HXA HEA HOKA;have k0:(0:Int)≤(i:Int):=by omega
    have k1:(i:Int)<(l.length:Int):=by omega
    clear hcell hbA hxa hxb hxe hxa1 hxb1 hxe1 hsn hnm hdr hR hbd HR HBr;go_upto_region 5 with (fail);clear x0 x1 x2 x3 x4 x5 x6 x7 x8 x9 x10;generalize wr.alloc _=wa at *;obtain⟨⟨c0,_⟩,⟨c1,_⟩,⟨c2,_⟩,⟨c3,_⟩,⟨c4,_⟩,⟨c5,_⟩,⟨c6,_⟩,⟨c7,_⟩,c8,_⟩:=cb9 HXA.o;obtain⟨c9,_⟩:=zz HXA.o 9;obtain⟨c10,_⟩:=zz HXA.o 10;go_wp2_with fail;refine (HC.o).mono ?_;intro e w2 hpost;cases hr:z8H k F env' m' s
    case bad=>exfalso;have h1:=HR1.o;rw[hr] at h1;exact HBAD.o h1.symm
    case trap=>rw[hr] at hpost;obtain⟨rfl,hb2⟩:=hpost;have HRT:Jd (r=.trap):=hI (by rw[←HR1.o,hr];rfl);have HB2:=hI ((HEV.o.belowS HOKA.o).trans hb2);clear hr hb2 c0 c1 c2 c3 c4 c5 c6 c7 c8 c9 c10;exact uKA
    rename_i q;rw[hr] at hpost;obtain⟨v2,env2,m2⟩:=q;obtain⟨rfl,bs2,hok2⟩:=hpost;have HOK2:=hI (HOKA.o.trans hok2);have HR2:Jd (tRun (fun env m s=>z8H k F env m s) v2 env2 m2 (l.drop (i+1))=r):=hI (by rw[←HR1.o,hr];rfl);clear hr hok2 c0 c1 c2 c3 c4 c5 c6 c7 c8 c9 c10;simp only;go_wp2_with fail;go_roundw
    case rel=>exact⟨i+1,v2,env2,bs2,m2,by omega,by go_num,rfl,HOK2.o,HR2⟩
    case measure=>simp[intOf];omega
  obtain rfl:i=l.length:=by omega
  have hR:=HR.o;rw[List.drop_length] at hR;have HRE:Jd (r=.ok (v,env',m')):=hI hR.symm;clear hR HR;go_wp2_with fail;rw[←HPO.o,HRE.o];exact⟨rfl,bs',HOK.o⟩
set_option maxRecDepth 100000
set_option maxHeartbeats 1000000
section
variable {a:TCl} {i k:Nat} {m:TMem}
section
variable {p:Prop}
theorem uBA (h:p:=by
 try simp only[Act.put,pA,pB,pC]
 refine wone 7 fun K hK=>?_;go_simp;refine (HLD.o).mono ?_;rintro e v2 ⟨rfl,rfl⟩;refine hK.o _ _ (fun _=>rfl) ?_;clear hK;try simp only[Act.put,pA,pB,pC]
 refine wone 8 fun K hK=>?_;go_simp;refine hK.o _ _ (fun h=>absurd rfl h) ?_;clear hK;try simp only[Act.put,pA,pB,pC]
 refine wD ?_ _;go_wp2_with fail;rw[←HPO.o];exact⟨rfl,bs,HOKD.o⟩):p:=h
end
theorem zZW {c:Nat} (h:m[c]? = some a) (hi:i<a.l.length):z1M m c (i:Int)=.ok (a.l.getD i 0):=by
 unfold z1M;rw[h];simp only;rw[if_pos (by omega),Int.toNat_natCast,List.getElem?_eq_getElem hi,List.getD_eq_getElem?_getD,List.getElem?_eq_getElem hi];rfl
theorem ClOk.at_ (h:ClOk a) (ho:a.oct=true) (hi:i<a.l.length):0≤a.l.getD i 0∧a.l.getD i 0<256:=h.val ho _ (by
 rw[List.getD_eq_getElem?_getD,List.getElem?_eq_getElem hi];exact List.getElem_mem hi)
theorem zsf {W:World} {nb:Nat} {L:List ByteArray} {env:TEnv} {bs:List Nat} (h:NmAt W nb L env bs m):NmAt W.drew nb L env bs m:=h.step (fun _ h=>h) (Pre.refl _) (Shp.refl _)
theorem zft:∀B B0 fr fb nb Nf n d L F env bs m kind pos num name args v W,kind=1→EvAt W B B0 fr fb nb Nf n L F env bs m→exSm (.mk kind pos num name args)→zj (zO d) W B v args→tVal (k+1) F env m (.mk kind pos num name args)≠.bad →
  Calls Tryz.prog 70 #[.pointer (some ⟨fr,0,none⟩),.agg #[kind,pos,num,name,v]] W (zZ8 W B0 bs m (tVal (k+1) F env m (.mk kind pos num name args))):=by
 intro B B0 fr fb nb Nf n d L F env bs m kind pos num name args v W hk hev hsm hx hbad;subst hk;obtain⟨hn1,hn2⟩:=hsm;simp only[TEx.name,TEx.args] at hn1 hn2;obtain⟨A,c,rfl,hc⟩:=hx.shape;have hbX:=bnew W (.cells #[.int .i64 1,pos,num,name,.slice A args.length c] 153);have HXX:=hI (heap_alloc_new W (.cells #[.int .i64 1,pos,num,name,.slice A args.length c] 153));have HOK1:=hI (hev.ok hbX);have HEV1:=hI (hev.step (hev.ok hbX));have HX1:=hI (hx.below (hbX.mono (Nat.le_trans hev.le.1 hev.le.2)) (Nat.le_refl _));unfold tVal at hbad ⊢;rw[if_pos rfl] at hbad ⊢;generalize hPO:zZ8 W B0 bs m (.ok (num,m))=PO;have HPO:=hI hPO;clear hev hx hbad hbX hPO;go_enter Tryz.func70,Tryz.ntmps70;go_wp2_with fail;rw[←HPO.o];exact⟨rfl,bs,HOK1.o⟩
theorem zYM:∀B B0 fr fb nb Nf n d L F env bs m kind pos num name args v W,kind=2→EvAt W B B0 fr fb nb Nf n L F env bs m→exSm (.mk kind pos num name args)→zj (zO d) W B v args→tVal (k+1) F env m (.mk kind pos num name args)≠.bad →
  Calls Tryz.prog 70 #[.pointer (some ⟨fr,0,none⟩),.agg #[kind,pos,num,name,v]] W (zZ8 W B0 bs m (tVal (k+1) F env m (.mk kind pos num name args))):=by
 intro B B0 fr fb nb Nf n d L F env bs m kind pos num name args v W hk hev hsm hx hbad;subst hk;obtain⟨hn1,hn2⟩:=hsm;simp only[TEx.name,TEx.args] at hn1 hn2;obtain⟨A,c,rfl,hc⟩:=hx.shape;have hbX:=bnew W (.cells #[.int .i64 2,pos,num,name,.slice A args.length c] 153);have HXX:=hI (heap_alloc_new W (.cells #[.int .i64 2,pos,num,name,.slice A args.length c] 153));have HOK1:=hI (hev.ok hbX);have HEV1:=hI (hev.step (hev.ok hbX));have HX1:=hI (hx.below (hbX.mono (Nat.le_trans hev.le.1 hev.le.2)) (Nat.le_refl _));unfold tVal at hbad ⊢;rw[if_neg (by decide),if_pos rfl] at hbad ⊢;cases he:env name
 case none=>rw[he] at hbad;exact absurd rfl hbad
 rename_i cc;rw[he] at hbad;simp only at hbad ⊢;obtain⟨a,g,hma,hbg,hl0⟩:=(zsf HEV1.o.nm).look hn1 he;obtain⟨g',hbg',_,hg0,ha⟩:=HEV1.o.mem.at_ cc a hma;rw[hbg] at hbg';cases hbg';rw[show z1M m cc 0=.ok (a.l.getD 0 0) from zZW hma ha.pos];show Calls _ _ _ _ (zZ8 W B0 bs m (.ok (a.l.getD 0 0,m)));generalize hPO:zZ8 W B0 bs m (.ok (a.l.getD 0 0,m))=PO;have HPO:=hI hPO;have hf1:=(zz HEV1.o.frm 1).1;have hx3:=(zz HXX.o 3).1;have HOKD:=hI (HOK1.o.trans (HEV1.o.ok (bdr (Below.refl _ _))));clear hev hx hbad hbX hPO hma hbg;go_enter Tryz.func70,Tryz.ntmps70;go_upto_region 5 with (fail);generalize W.alloc _=v1 at *;generalize W.heap.size=X at *;obtain⟨wd,hwd⟩:∃wd,v1.drew=wd:=⟨_,rfl⟩
 have hg:wd.heap[g]? = some (zmX a):=by rw[←hwd];exact hg0
 have z1:wd.cell? ⟨fr,1,none⟩=some (.map (some nb)):=by rw[←hwd];exact hf1
 have z2:wd.cell? ⟨X,3,none⟩=some (.string name):=by rw[←hwd];exact hx3
 rw[hwd] at hl0 HOKD;clear hf1 hx3 hg0;obtain⟨o,l⟩:=a;cases o
 case false =>
  unfold zVt at hl0;unfold zmX at hg;simp only[Bool.false_eq_true,if_false] at hl0 hg;have HLD:=hI (zfR g 0 l ha.pos wd hg);rw[show ((0:Nat):Int)=0 from rfl] at HLD;clear ha hg;refine wL (fun w'=>w'=wd) 8 ?_;have hS0:v1.drew=wd:=hwd;generalize v1.drew=wd2 at *;subst hS0;have hS0:wd2=wd2:=rfl;refine tk 0 17 (.pointer (some ⟨fr,0,none⟩)) ?_ hS0 ?_
  · intro wz hSz;subst hSz;go_simp
  refine tk 1 18 (.pointer (some ⟨fr,0,none⟩)) ?_ hS0 ?_
  · intro wz hSz;subst hSz;go_simp
  refine tk 2 19 (.pointer (some ⟨fr,1,none⟩)) ?_ hS0 ?_
  · intro wz hSz;subst hSz;go_simp
  refine tk 3 20 (.map (some nb)) ?_ hS0 ?_
  · intro wz hSz;subst hSz;go_simp
  refine tk 4 21 (.pointer (some ⟨X,3,none⟩)) ?_ hS0 ?_
  · intro wz hSz;subst hSz;go_simp
  refine tk 5 22 (.string name) ?_ hS0 ?_
  · intro wz hSz;subst hSz;go_simp
  refine tk 6 23 (.iface 120 (.slice (some ⟨g,0,none⟩) l.length l.length)) ?_ hS0 ?_
  · intro wz hSz;subst hSz;go_simp
  exact uBA
 unfold zVt at hl0;unfold zmX at hg;simp only[if_true] at hl0 hg;have HLD:=hI (zy3 g 0 l ha.pos (ha.at_ rfl ha.pos) wd hg);rw[show ((0:Nat):Int)=0 from rfl] at HLD;clear ha hg;refine wL (fun w'=>w'=wd) 8 ?_;have hS0:v1.drew=wd:=hwd;generalize v1.drew=wd2 at *;subst hS0;have hS0:wd2=wd2:=rfl;refine tk 0 17 (.pointer (some ⟨fr,0,none⟩)) ?_ hS0 ?_
 · intro wz hSz;subst hSz;go_simp
 refine tk 1 18 (.pointer (some ⟨fr,0,none⟩)) ?_ hS0 ?_
 · intro wz hSz;subst hSz;go_simp
 refine tk 2 19 (.pointer (some ⟨fr,1,none⟩)) ?_ hS0 ?_
 · intro wz hSz;subst hSz;go_simp
 refine tk 3 20 (.map (some nb)) ?_ hS0 ?_
 · intro wz hSz;subst hSz;go_simp
 refine tk 4 21 (.pointer (some ⟨X,3,none⟩)) ?_ hS0 ?_
 · intro wz hSz;subst hSz;go_simp
 refine tk 5 22 (.string name) ?_ hS0 ?_
 · intro wz hSz;subst hSz;go_simp
 refine tk 6 23 (.iface 119 (.slice (some ⟨g,0,none⟩) l.length l.length)) ?_ hS0 ?_
 · intro wz hSz;subst hSz;go_simp
 exact uBA
end
section
variable {k:Nat}
section
variable {p:Prop}
theorem uXU (h:p:=by
 exfalso;have h1:=HR.o;rw[hq] at h1;exact HBAD.o h1.symm):p:=h
theorem uOS (h:p:=by
 generalize l.getD j 0=vv at *;clear ha hg hl0;go_wp2_with fail;refine (HAT.o).mono ?_;rintro e v2 ⟨rfl,hw3⟩;have hw3:=hw3.symm;subst hw3;go_wp2_with fail;refine (HLD.o).mono ?_;rintro e v3 ⟨rfl,hw4⟩;have hw4:=hw4.symm;subst hw4;go_wp2_with fail;rw[←HPO.o,HRT.o];exact⟨rfl,bs1,HOK2.o⟩):p:=h
theorem uHc (h:p:=by
 go_wp2_with fail;refine⟨rfl,?_⟩;rw[←HPO.o];exact⟨rfl,HB2.o⟩):p:=h
end
theorem zHg (hw:zOI k):∀B B0 fr fb nb Nf n d L F env bs m kind pos num name args v W,kind=3→EvAt W B B0 fr fb nb Nf n L F env bs m→exSm (.mk kind pos num name args)→zj (zO d) W B v args→tVal (k+1) F env m (.mk kind pos num name args)≠.bad →
  Calls Tryz.prog 70 #[.pointer (some ⟨fr,0,none⟩),.agg #[kind,pos,num,name,v]] W (zZ8 W B0 bs m (tVal (k+1) F env m (.mk kind pos num name args))):=by
 intro B B0 fr fb nb Nf n d L F env bs m kind pos num name args v W hk hev hsm hx hbad;subst hk;obtain⟨hn1,hn2⟩:=hsm;simp only[TEx.name,TEx.args] at hn1 hn2;obtain⟨A,c,rfl,hc⟩:=hx.shape;have hbX:=bnew W (.cells #[.int .i64 3,pos,num,name,.slice A args.length c] 153);have HXX:=hI (heap_alloc_new W (.cells #[.int .i64 3,pos,num,name,.slice A args.length c] 153));have HOK1:=hI (hev.ok hbX);have HEV1:=hI (hev.step (hev.ok hbX));have HX1:=hI (hx.below (hbX.mono (Nat.le_trans hev.le.1 hev.le.2)) (Nat.le_refl _));unfold tVal at hbad ⊢;rw[if_neg (by decide),if_neg (by decide),if_pos rfl] at hbad ⊢;cases args with
 | nil=>exact absurd rfl hbad
 | cons x xs =>
  simp only at hbad ⊢;have hbx:tVal k F env m x≠.bad:=fun e=>hbad (by rw[e];rfl);obtain⟨d1,b,off,vx,rfl,rfl,hb0,hsx,hxx,x0,x1,x2,x3,x4⟩:=zYA HX1.o 0 (by simp);simp only[List.getD_cons_zero,Nat.zero_mul,Nat.add_zero] at hsx hxx x0 x1 x2 x3 x4;obtain⟨Ax,cx,rfl,_⟩:=hxx.shape;have HC:=hI (hw.val B B0 fr fb nb Nf n d1 L F env bs m x (.slice Ax x.args.length cx) _ HEV1.o hsx hxx hbx);unfold zem at HC;obtain⟨r,hr⟩:∃r,((tVal k F env m x).bind fun r=>(tAtC r.2 env name r.1).bind fun c=>(z1M r.2 c r.1).bind fun v=>.ok (v,r.2))=r:=⟨_,rfl⟩
  rw[hr] at hbad ⊢;have HR:=hI hr;have HBAD:=hI hbad;generalize hPO:zZ8 W B0 bs m r=PO;have HPO:=hI hPO;have HXF:=hI (fun (v1:World) (h:∀q y,¬q∈bs→(W.alloc (.cells #[.int .i64 3,pos,num,name,.slice (some ⟨b,off,none⟩) (x::xs).length c] 153)).heap[q]? = some y→v1.heap[q]? = some y)=>h W.heap.size _ (fun h9=>by have:=(hev.mem.mem_le _ h9).2;omega) HXX.o);have HBLW:=hI (fun (v1:World) (h:Below B0 (W.alloc (.cells #[.int .i64 3,pos,num,name,.slice (some ⟨b,off,none⟩) (x::xs).length c] 153)) v1)=>(hbX.mono hev.le.2).trans h);have k1:(0:Int)<(((x::xs).length:Nat):Int):=by rw[List.length_cons];omega
  have hgl:(x::xs).length=(x::xs).length:=rfl;generalize (x::xs).length=ln at *;have c4:=(zz HXX.o 4).1;have HN1:=hI hn1;have HBE:Jd (∀v1 b2 m2,EvOk W B0 bs m v1 b2 m2→Below B0 W v1):=hI (fun v1 b2 m2 h=>h.below hev.mem hev.le.2);clear hev hx hbad hbX hPO hr hxx hbx hsx hw hgl hn1 hn2;go_enter Tryz.func70,Tryz.ntmps70;go_upto_region 7 with (fail);generalize W.alloc _=v2 at *;generalize W.heap.size=X at *;have hf1:=(zz HEV1.o.frm 1).1;go_wp2_with fail;refine (HC.o).mono ?_;intro e v1 hpost;cases hq:tVal k F env m x
  case bad=>exact uXU
  case trap=>rw[hq] at hpost;obtain⟨rfl,hb2⟩:=hpost;have HRT:Jd (r=.trap):=hI (by rw[←HR.o,hq];rfl);have HB2:=hI (HBLW.o v1 hb2);clear hq hb2 x0 x1 x2 x3 x4 c4 hf1;exact uKA
  rename_i q;rw[hq] at hpost;obtain⟨iv,m1⟩:=q;obtain⟨rfl,bs1,hok⟩:=hpost;have HR1:Jd (((tAtC m1 env name iv).bind fun c=>(z1M m1 c iv).bind fun v=>.ok (v,m1))=r):=hI (by rw[←HR.o,hq];rfl);have HEV2:=hI (HEV1.o.step hok);have HOK2:=hI (HOK1.o.trans hok);have HX2:=hI (HXF.o v1 (fun q y h1 h2=>hok.kp.blk q y h1 h2));have z3:=(zz HX2.o 3).1;clear hq hok x0 x1 x2 x3 x4 c4 hf1;simp only;cases he:env name
  case none=>exfalso;have h1:=HR1.o;unfold tAtC at h1;rw[he] at h1;exact HBAD.o h1.symm
  rename_i cc;obtain⟨a,g,hma,hbg,hl0⟩:=HEV2.o.nm.look HN1.o he;obtain⟨g',hbg',_,hg,ha⟩:=HEV2.o.mem.at_ cc a hma;rw[hbg] at hbg';cases hbg';have h1:=HR1.o;unfold tAtC at h1;rw[he] at h1;simp only at h1;rw[hma] at h1;simp only at h1;by_cases hle:(a.l.length:Int)≤iv
  · rw[if_pos hle] at h1;have HRT:Jd (r=.trap):=hI h1.symm;have HAT:=hI (zG7 fr nb (.map (some fb)) name a g ha iv hle v1 HEV2.o.frm hl0);have HB2:=hI (HEV2.o.belowS (HEV2.o.okS (Below.refl _ _)));have HB3:=hI (HOK2.o);clear h1 he hma hbg hg ha hl0;go_wp2_with fail;refine (HAT.o).mono ?_;rintro e v2 ⟨rfl,hw3⟩;have hw3:=hw3.symm;subst hw3;go_wp2_with fail;refine⟨rfl,?_⟩;rw[←HPO.o,HRT.o];exact⟨rfl,HBE.o _ _ _ HB3.o⟩
  rw[if_neg hle] at h1;by_cases h0:0≤iv
  · obtain⟨j,rfl⟩:∃j:Nat,iv=j:=⟨iv.toNat,by omega⟩
    have hjl:j<a.l.length:=by omega
    have HAT:=hI (zA7 fr nb (.map (some fb)) name a g ha j hjl v1 HEV2.o.frm hl0);have h2:z1M m1 cc (j:Int)=.ok (a.l.getD j 0):=zZW hma hjl;rw[show (TR.ok cc).bind (fun c=>(z1M m1 c (j:Int)).bind fun v=>.ok (v,m1))=(z1M m1 cc (j:Int)).bind fun v=>.ok (v,m1) from rfl,h2] at h1;have HRT:Jd (r=.ok (a.l.getD j 0,m1)):=hI h1.symm;clear h1 h2 he hma hbg hle h0;obtain⟨o,l⟩:=a;simp only at hjl HRT;cases o
    case true=>unfold zVt at hl0 HAT;unfold zmX at hg;simp only[if_true] at hl0 hg HAT;have HLD:=hI (zy3 g j l hjl (ha.at_ rfl hjl) v1 hg);exact uOS
    unfold zVt at hl0 HAT;unfold zmX at hg;simp only[Bool.false_eq_true,if_false] at hl0 hg HAT;have HLD:=hI (zfR g j l hjl v1 hg);exact uOS
  exfalso;rw[show (TR.ok cc).bind (fun c=>(z1M m1 c iv).bind fun v=>.ok (v,m1))=(z1M m1 cc iv).bind fun v=>.ok (v,m1) from rfl] at h1;unfold z1M at h1;rw[hma] at h1;simp only at h1;rw[if_neg h0] at h1;exact HBAD.o h1.symm
theorem z1C (hw:zOI k):∀B B0 fr fb nb Nf n d L F env bs m kind pos num name args v W,kind=4→EvAt W B B0 fr fb nb Nf n L F env bs m→exSm (.mk kind pos num name args)→zj (zO d) W B v args→tVal (k+1) F env m (.mk kind pos num name args)≠.bad →
  Calls Tryz.prog 70 #[.pointer (some ⟨fr,0,none⟩),.agg #[kind,pos,num,name,v]] W (zZ8 W B0 bs m (tVal (k+1) F env m (.mk kind pos num name args))):=by
 intro B B0 fr fb nb Nf n d L F env bs m kind pos num name args v W hk hev hsm hx hbad;subst hk;obtain⟨hn1,hn2⟩:=hsm;simp only[TEx.name,TEx.args] at hn1 hn2;obtain⟨A,c,rfl,hc⟩:=hx.shape;have hbX:=bnew W (.cells #[.int .i64 4,pos,num,name,.slice A args.length c] 153);have HXX:=hI (heap_alloc_new W (.cells #[.int .i64 4,pos,num,name,.slice A args.length c] 153));have HOK1:=hI (hev.ok hbX);have HEV1:=hI (hev.step (hev.ok hbX));have HX1:=hI (hx.below (hbX.mono (Nat.le_trans hev.le.1 hev.le.2)) (Nat.le_refl _));unfold tVal at hbad ⊢;rw[if_neg (by decide),if_neg (by decide),if_neg (by decide),if_pos rfl] at hbad ⊢;have HC:=hI (hw.call B B0 fr fb nb Nf n d L F env bs m (.mk 4 pos num name args) (.slice A args.length c) _ HEV1.o ⟨hn1,hn2⟩ HX1.o hbad);unfold zem at HC;simp only[TEx.kind,TEx.pos,TEx.num,TEx.name,TEx.args] at HC;obtain⟨r,hr⟩:∃r,zQ3 k F env m name args=r:=⟨_,rfl⟩
 rw[hr] at hbad HC ⊢;have HBAD:=hI hbad;generalize hPO:zZ8 W B0 bs m r=PO;have HPO:=hI hPO;have HBLW:=hI (fun (v1:World) (h:Below B0 (W.alloc (.cells #[.int .i64 4,pos,num,name,.slice A args.length c] 153)) v1)=>(hbX.mono hev.le.2).trans h);obtain⟨⟨c0,_⟩,⟨c1,_⟩,⟨c2,_⟩,⟨c3,_⟩,c4,_⟩:=cb5 HXX.o;clear hev hx hbad hbX hPO hr hw hn1 hn2;go_enter Tryz.func70,Tryz.ntmps70;go_upto_region 10 with (fail);generalize W.alloc _=v2 at *;generalize W.heap.size=X at *;go_wp2_with fail;refine (HC.o).mono ?_;intro e v1 hpost;cases r
 case bad=>exact absurd rfl HBAD.o
 case trap=>obtain⟨rfl,hb2⟩:=hpost;have HB2:=hI (HBLW.o v1 hb2);clear hb2 c0 c1 c2 c3 c4;exact uHc
 rename_i q;obtain⟨iv,m1⟩:=q;obtain⟨rfl,bs1,hok⟩:=hpost;have HOK2:=hI (HOK1.o.trans hok);clear hok c0 c1 c2 c3 c4;simp only;go_wp2_with fail;rw[←HPO.o];exact⟨rfl,bs1,HOK2.o⟩
end
section
variable {W:World} {k:Nat}
section
variable {p:Prop}
theorem uZV (h:p:=by
 refine hK.o _ _ (fun h=>absurd rfl h) ?_;clear hK;try simp only[Act.put,pA,pB,pC]
 refine wD ?_ _;go_wp2_with fail;rw[←HPO.o,HRT.o];exact⟨rfl,bs',HOK.o.trans (HEr.o.ok HB3.o)⟩):p:=h
end
theorem zYq (w:World) (base:Nat) (v:Value) (n:Nat) (ys:List Value) (hown:w.ownsRow base 3 1 v n ys) (y:Int) (hn:n≤2000000) (hbase:base≤w.heap.size) :
  ∃v' w',(Builtin.append_ #[44, 44] 44 #[v,.slice (some ⟨w.heap.size,0,none⟩) 1 1]).run Tryz.prog (w.alloc (.cells #[y] 3))=.ok v' w' ∧
   w'.ownsRow base 3 1 v' (n+1) (ys++[.int .i64 y])∧(w.alloc (.cells #[.int .i64 y] 3)).grownBy w' v.ownBlock∧(v'.ownBlock=v.ownBlock∨v'.ownBlock=some (w.heap.size+1)):=by
 obtain⟨i0,hi,hz0,hz1,hz2⟩:=zQk zEz
 obtain⟨v',w',h1,h2,h3,h4⟩:=run_append_own_at (P:=Tryz.prog) (w.alloc (.cells #[y] 3)) base 44 44 3 i0 _ 1 8 Tryz.underlying44 hi hz0 hz1 hz2 rfl (by omega) v n ys (hown.alloc _) ⟨w.heap.size,0,none⟩ 1 1 [y] rfl (World.news_of_block (heap_alloc_new w _)) (by intro u hu;simp at hu;rcases hu with rfl;rfl) (by unfold maxLen;omega) (by omega) (by simp;omega)
 have e:(w.alloc (.cells #[y] 3)).heap.size=w.heap.size+1:=by simp
 rw[e] at h4
 exact⟨v',w',h1,h2,h3,h4.2⟩
theorem EvOk.grown {W1 W2:World} {B0:Nat} {bs b1:List Nat} {m m1:TMem} {row:Option Nat} (h:EvOk W B0 bs m W1 b1 m1) (hg:W1.grownBy W2 row) (hr:∀r,row=some r→W.heap.size≤r∧r∉b1):EvOk W B0 bs m W2 b1 m1:=by
 have hb:∀q x,some q≠row→W1.heap[q]? = some x→W2.heap[q]? = some x:=fun q x hq hx=>(hg.block q (zh hx) hq).trans hx;refine⟨h.pre,h.new,⟨h.mem.len,fun c a hc=>?_,h.mem.inj⟩,h.shp,⟨hg.os.trans h.kp.os,hg.tape.trans h.kp.tape,hg.output.trans h.kp.output,Nat.le_trans h.kp.siz hg.size,fun q x hq hx=>?_⟩⟩
 · obtain⟨g,h1,h2,h3,h4⟩:=h.mem.at_ c a hc;exact⟨g,h1,h2,hb g _ (fun e=>(hr g e.symm).2 (List.mem_of_getElem? h1)) h3,h4⟩
 exact hb q x (fun e=>by have:=(hr q e.symm).1;have:=zh hx;omega) (h.kp.blk q x hq hx)
theorem zMv {W':World} {S:Nat→Prop} {base t mm:Nat} {v:Value} {n:Nat} {ys:List Value} (h:W.ownsRow base t mm v n ys) (k:Kp S W W') (hs:∀r,v.ownBlock=some r→¬S r):W'.ownsRow base t mm v n ys:=by
 obtain⟨h1,h2⟩:=h;refine⟨h1,?_⟩;rcases h2 with h2 | ⟨g,cap,cur,rfl,a,b,r⟩
 · exact Or.inl h2
 exact Or.inr ⟨g,cap,cur,rfl,a,k.blk g _ (hs g rfl) b,r⟩
theorem z8x {kind num:Int} {vs:List Int} {r:TR Int} (h:zE0 kind num vs=r) (hb:r≠.bad):vs.length=1∨vs.length=2∨vs.length=3:=by
 match vs,h with
 | [],h=>exact absurd h.symm hb
 | [_],_=>exact Or.inl rfl
 | [_,_],_=>exact Or.inr (Or.inl rfl)
 | [_,_,_],_=>exact Or.inr (Or.inr rfl)
 | _::_::_::_::_,h=>exact absurd h.symm hb
theorem zyH (hw:zOI k):∀B B0 fr fb nb Nf n d L F env bs m kind pos num name args v W,kind≠1→kind≠2→kind≠3→kind≠4→EvAt W B B0 fr fb nb Nf n L F env bs m→exSm (.mk kind pos num name args)→zj (zO d) W B v args→tVal (k+1) F env m (.mk kind pos num name args)≠.bad →
  Calls Tryz.prog 70 #[.pointer (some ⟨fr,0,none⟩),.agg #[kind,pos,num,name,v]] W (zZ8 W B0 bs m (tVal (k+1) F env m (.mk kind pos num name args))):=by
 intro B B0 fr fb nb Nf n d L F env bs m kind pos num name args v W k1 k2 k3 k4 hev hsm hx hbad;obtain⟨hn1,hn2⟩:=hsm;simp only[TEx.name,TEx.args] at hn1 hn2;obtain⟨A,c,rfl,hc⟩:=hx.shape;have hbX:=bnew W (.cells #[kind,pos,num,name,.slice A args.length c] 153);have HXX:=hI (heap_alloc_new W (.cells #[kind,pos,num,name,.slice A args.length c] 153));have HOK1:=hI (hev.ok hbX);have HEV1:=hI (hev.step (hev.ok hbX));have HX1:=hI (hx.below (hbX.mono (Nat.le_trans hev.le.1 hev.le.2)) (Nat.le_refl _));unfold tVal at hbad ⊢;rw[if_neg k1,if_neg k2,if_neg k3,if_neg k4] at hbad ⊢;have q1:(kind==1)=false:=nB k1;have q2:(kind==2)=false:=nB k2;have q3:(kind==3)=false:=nB k3;have q4:(kind==4)=false:=nB k4;obtain⟨r,hr⟩:∃r,((zQQ (fun m x=>tVal k F env m x) m args).bind fun r=>(zE0 kind num r.1).bind fun v=>.ok (v,r.2))=r:=⟨_,rfl⟩
 rw[hr] at hbad ⊢;have HBAD:=hI hbad;have HR0:Jd (((zQQ (fun m x=>tVal k F env m x) m (args.drop 0)).bind fun q=>(zE0 kind num ([]++q.1)).bind fun v=>.ok (v,q.2))=r):=hI hr;generalize hPO:zZ8 W B0 bs m r=PO;have HPO:=hI hPO;have HEV:=hI hev;have HX:=hI hx;have HVAL:=hI hw.val;have HLE:=hI hev.le;have HBE:Jd (∀v1 b2 m2,EvOk W B0 bs m v1 b2 m2→Below B0 W v1):=hI (fun v1 b2 m2 h=>h.below hev.mem hev.le.2);have HXF:=hI (fun (v1:World) (h:∀q y,¬q∈bs→(W.alloc (.cells #[kind,pos,num,name,.slice A args.length c] 153)).heap[q]? = some y→v1.heap[q]? = some y)=>h W.heap.size _ (fun h9=>by have:=(hev.mem.mem_le _ h9).2;omega) HXX.o);have HNS:Jd (W.heap.size∉bs∧(W.alloc (.cells #[kind,pos,num,name,.slice A args.length c] 153)).heap.size=W.heap.size+1):=hI ⟨fun h9=>by have:=(hev.mem.mem_le _ h9).2;omega,by simp⟩;have c4:=(zz HXX.o 4).1;clear hev hx hbad hbX hPO hr hw hn1 k1 k2 k3 k4;go_enter Tryz.func70,Tryz.ntmps70;go_upto_region 12 with (fail);generalize W.alloc _=v2 at *;go_wp2_with fail;clear c4;go_loopw [6,48] (fun vv vi wr=>∃(i:Nat) (vs:List Int) (bs':List Nat) (m':TMem) (A':Option Addr) (c':Nat),i≤args.length∧vi=.int .i64 i∧vs.length=i∧vv=.slice A' vs.length c'∧wr.ownsRow (W.heap.size+1) 3 1 (.slice A' vs.length c') vs.length (vs.map (.int .i64 ·))∧(∀g∈bs',(Value.slice A' vs.length c').ownBlock≠some g)∧W.heap.size∉bs'∧EvOk W B0 bs m wr bs' m'∧Jd (wr.heap[W.heap.size]? = some (.cells #[kind,pos,num,name,.slice A args.length c] 153 (0,0)))∧Jd (((zQQ (fun m x=>tVal k F env m x) m' (args.drop i)).bind fun q=>(zE0 kind num (vs++q.1)).bind fun v=>.ok (v,q.2))=r)) (fun _ vi _=>args.length-(intOf vi).toNat)
 case atStart=>exact⟨0,[],bs,m,none,0,Nat.zero_le _,rfl,rfl,rfl,World.ownsRow_nil _ _ _ _,(fun g _=>by simp[Value.ownBlock]),HNS.o.1,HOK1.o,HXX,HR0⟩
 case round =>
  obtain⟨i,vs,bs',m',A',c',hi,rfl,hvl,rfl,hown,hfar,hxn,hok,HXr,HR⟩:=hrel;have HXN:=hI hxn;clear hxn;have HOK:=hI hok;have HOWN:=hI hown;have HFAR:=hI hfar;have HEr:=hI (HEV.o.step hok);have HBr:=hI (HBE.o _ _ _ hok);have HVL:=hI hvl;clear hok hown hfar hvl;by_cases hlt:i<args.length
  · obtain⟨d1,b,off,vy,rfl,rfl,hb0,hsy,hyy,x0,x1,x2,x3,x4⟩:=zYA (HX.o.below (HBr.o.mono HLE.o.1) (Nat.le_refl _)) i hlt;obtain⟨Ay,cy,rfl,_⟩:=hyy.shape;have hdr:=zD args i zq hlt;have hR:=HR.o;rw[hdr] at hR;generalize args.getD i zq=y at *;have hbA:=bnew wr (.cells #[y.kind,y.pos,y.num,y.name,.slice Ay y.args.length cy] 153);have HEA:=hI (HEr.o.step (HEr.o.ok hbA));have HOKA:=hI (HOK.o.trans (HEr.o.ok hbA));have HYA:=hI (heap_alloc_new wr (.cells #[y.kind,y.pos,y.num,y.name,.slice Ay y.args.length cy] 153));have hyy1:=hyy.below (hbA.mono (Nat.le_trans HEr.o.le.1 HEr.o.le.2)) (Nat.le_refl _);have HXA:=hI ((hbA.block _ (zh HXr.o)).trans HXr.o);have HOWA:=hI (zVY HOWN.o hbA);have hbd:tVal k F env m' y≠.bad:=fun e=>HBAD.o (by rw[←hR];show ((tVal k F env m' y).bind _).bind _=_;rw[e];rfl)
    have HC:=hI (HVAL.o B B0 fr fb nb Nf n d1 L F env bs' m' y (.slice Ay y.args.length cy) _ HEA.o hsy hyy1 hbd)
    have HR1:Jd (((tVal k F env m' y).bind fun q=>(zQQ (fun m x=>tVal k F env m x) q.2 (args.drop (i+1))).bind fun p=>(zE0 kind num (vs++q.1::p.1)).bind fun v=>.ok (v,p.2))=r):=hI (by
     rw[←hR];show _=(((tVal k F env m' y).bind fun q=>(zQQ (fun m x=>tVal k F env m x) q.2 (args.drop (i+1))).bind fun p=>.ok (q.1::p.1,p.2))).bind _;cases tVal k F env m' y with
     | bad=>rfl
     | trap=>rfl
     | ok q=>show (zQQ _ q.2 _).bind _=((zQQ _ q.2 _).bind _).bind _;cases zQQ (fun m x=>tVal k F env m x) q.2 (args.drop (i+1)) <;> rfl)
    unfold zem at HC;have k0:(0:Int)≤(i:Int):=by omega
    have k1:(i:Int)<(args.length:Int):=by omega
    clear hbA hyy hyy1 hsy hdr hR hbd HR;go_upto_region 15 with (fail);clear x0 x1 x2 x3 x4;generalize wr.alloc _=wa at *;obtain⟨⟨c0,_⟩,⟨c1,_⟩,⟨c2,_⟩,⟨c3,_⟩,c4,_⟩:=cb5 HYA.o;go_wp2_with fail;refine (HC.o).mono ?_;intro e v1 hpost;cases hq:tVal k F env m' y
    case bad=>exfalso;have h1:=HR1.o;rw[hq] at h1;exact HBAD.o h1.symm
    case trap=>rw[hq] at hpost;obtain⟨rfl,hb2⟩:=hpost;have HRT:Jd (r=.trap):=hI (by rw[←HR1.o,hq];rfl);have HB2:=hI ((HBE.o _ _ _ HOKA.o).trans hb2);clear hq hb2 c0 c1 c2 c3 c4;exact uKA
    rename_i q;rw[hq] at hpost;obtain⟨iv,m1⟩:=q;obtain⟨rfl,bs1,hok⟩:=hpost;have hown2:=zMv HOWA.o hok.kp (fun g e h9=>HFAR.o g h9 e);have hw2s:W.heap.size+1≤v1.heap.size:=by have h1:=zh HXA.o;have h2:=hok.kp.siz;omega
    have hrl:∀g,(Value.slice A' vs.length c').ownBlock=some g→W.heap.size+1≤g∧g<wa.heap.size:=fun g e=>⟨(HOWA.o.lt g e).1,(HOWA.o.lt g e).2⟩
    have hok2:=HOKA.o.trans hok;obtain⟨v',v2,hrun,how4,hg4,hob⟩:=zYq v1 (W.heap.size+1) (.slice A' vs.length c') vs.length (vs.map (.int .i64 ·)) hown2 iv (by have:=HVL.o;omega) hw2s;obtain⟨A4,c4',rfl⟩:=zfk how4
    have hfar2:∀g∈bs1,(Value.slice A' vs.length c').ownBlock≠some g:=fun g hg e=>by
     rcases hok.new g hg with h1 | h1
     · exact HFAR.o g h1 e
     have:=(hrl g e).2;omega
    have hxn2:W.heap.size∉bs1:=fun h9=>by
     rcases hok.new _ h9 with h1 | h1
     · exact HXN.o h1
     have:=zh HXA.o;omega
    have hok4:EvOk W B0 bs m v2 bs1 m1:=(hok2.trans ((HEV.o.step hok2).ok (bnew v1 _))).grown hg4 (fun r e=>⟨by have:=(hrl r e).1;omega,fun h9=>hfar2 r h9 e⟩);have hX2:=hok.kp.blk _ _ HXN.o HXA.o;have hX3:=((bnew v1 (.cells #[iv] 3)).block _ (zh hX2)).trans hX2;have HX4:=hI ((hg4.block _ (zh hX3) (fun e=>by have:=(hrl _ e.symm).1;omega)).trans hX3)
    have hfar4:∀g∈bs1,(Value.slice A4 (vs.length+1) c4').ownBlock≠some g:=fun g hg e=>by
     rcases hob with h1 | h1
     · exact hfar2 g hg (h1 ▸ e)
     rw[h1] at e;injection e with e;have h2:=((HEV.o.step hok2).mem.mem_le g hg).2;omega
    have HR2:Jd (((zQQ (fun m x=>tVal k F env m x) m1 (args.drop (i+1))).bind fun q=>(zE0 kind num ((vs++[iv])++q.1)).bind fun v=>.ok (v,q.2))=r):=hI (by rw[←HR1.o,hq];simp only[List.append_assoc,List.singleton_append];rfl)
    have HRUN:=hI hrun;have HW4:=hI how4;have HF4:=hI hfar4;have HK4:=hI hok4;have HN4:=hI hxn2;clear hq hrun how4 hfar4 hok4 hxn2 hX2 hX3 hg4 hob hfar2 hok2 hrl hw2s hown2 hok c0 c1 c2 c3 c4;simp only;go_wp2_with (at_builtin;refine zEF rfl (.tmp 52) (.tmp 56) 44 rfl HRUN.o rfl rfl ?_);go_roundw
    case rel=>exact⟨i+1,vs++[iv],bs1,m1,A4,c4',by omega,by go_num,by rw[List.length_append,HVL.o];rfl,by rw[List.length_append];rfl,by rw[List.length_append,List.map_append];exact HW4.o,by rw[List.length_append];exact HF4.o,HN4.o,HK4.o,HX4,HR2⟩
    case measure=>simp[intOf];omega
  obtain rfl:i=args.length:=by omega
  have hR:=HR.o;rw[List.drop_length] at hR;have hR:((zE0 kind num (vs++[])).bind fun v=>.ok (v,m'))=r:=hR;rw[List.append_nil] at hR;have HR9:=hI hR;have hl3:=z8x (r:=zE0 kind num vs) rfl (fun e=>HBAD.o (by rw[←hR,e];rfl));clear hR HR;rcases hl3 with h1 | h1 | h1
  · obtain⟨va,rfl⟩:∃va,vs=[va]:=by
     match vs,h1 with
     | [va],_=>exact⟨va,rfl⟩
    clear h1;have HRT:Jd (r=.ok (zay kind num va,m')):=hI HR9.o.symm;have hown:=HOWN.o;obtain⟨g0,e0,y0⟩:=z9X (i:=0) hown (by simp);obtain⟨g,hg⟩:∃g,A'=some ⟨g,0,none⟩:=⟨g0,e0⟩
    subst hg;obtain rfl:g=g0:=by injection e0 with e0;injection e0
    simp only[List.length_cons,List.length_nil,Nat.zero_add,List.map_cons,List.map_nil,List.getElem?_cons_zero] at y0 ⊢;obtain⟨⟨c0,_⟩,⟨c1,_⟩,⟨c2,_⟩,⟨c3,_⟩,c4,_⟩:=cb5 HXr.o;clear hown e0;go_upto_region 19 with (fail);have HBD:Jd (Below wr.heap.size wr wr.drew):=hI (bdr (Below.refl _ _));have hS0:(fun w'=>w'.cell? ⟨W.heap.size,0,none⟩=some (.int .i64 kind)∧w'.cell? ⟨W.heap.size,1,none⟩=some (.int .i64 pos)∧w'.cell? ⟨W.heap.size,2,none⟩=some (.int .i64 num)∧w'.cell? ⟨W.heap.size,3,none⟩=some (.string name)∧w'.cell? ⟨W.heap.size,4,none⟩=some (.slice A args.length c)∧w'.cell? ⟨g,0,none⟩=some (.int .i64 va)) wr.drew:=⟨c0,c1,c2,c3,c4,y0⟩
    have HLX:=hI (zh HXr.o);have HLG:Jd (g<wr.heap.size):=hI (HOWN.o.lt g rfl).2;refine wL (fun w'=>w'.cell? ⟨W.heap.size,0,none⟩=some (.int .i64 kind)∧w'.cell? ⟨W.heap.size,1,none⟩=some (.int .i64 pos)∧w'.cell? ⟨W.heap.size,2,none⟩=some (.int .i64 num)∧w'.cell? ⟨W.heap.size,3,none⟩=some (.string name)∧w'.cell? ⟨W.heap.size,4,none⟩=some (.slice A args.length c)∧w'.cell? ⟨g,0,none⟩=some (.int .i64 va)) 5 ?_;obtain⟨wd,hwd⟩:∃wd,wr.drew=wd:=⟨_,rfl⟩
    rw[hwd] at hS0 HBD ⊢;have HWD:Jd (wd.heap.size=wr.heap.size):=hI (by rw[←hwd];rfl);clear hwd c0 c1 c2 c3 c4 y0;refine tg 0 63 (.agg #[kind,pos,num,name,.slice A args.length c]) hS0 ?_;refine tg 1 64 (.slice (some ⟨g,0,none⟩) 1 c') hS0 ?_;refine tg 2 65 (.pointer (some ⟨g,0,none⟩)) hS0 ?_;refine tg 3 66 (.int .i64 va) hS0 ?_;try simp only[Act.put,pA,pB,pC]
    refine wone 4 fun K hK=>?_;go_simp;refine (zUa kind pos num name (.slice A args.length c) va wd).mono ?_;rintro e v1 ⟨rfl,hb3⟩;have hcx:∀o,v1.cell? ⟨W.heap.size,o,none⟩=wd.cell? ⟨W.heap.size,o,none⟩:=fun o=>hb3.cell (p:=⟨W.heap.size,o,none⟩) (by rw[HWD.o];exact HLX.o);have hcg:∀o,v1.cell? ⟨g,o,none⟩=wd.cell? ⟨g,o,none⟩:=fun o=>hb3.cell (p:=⟨g,o,none⟩) (by rw[HWD.o];exact HLG.o);have hS1:(fun w'=>w'.cell? ⟨W.heap.size,0,none⟩=some (.int .i64 kind)∧w'.cell? ⟨W.heap.size,1,none⟩=some (.int .i64 pos)∧w'.cell? ⟨W.heap.size,2,none⟩=some (.int .i64 num)∧w'.cell? ⟨W.heap.size,3,none⟩=some (.string name)∧w'.cell? ⟨W.heap.size,4,none⟩=some (.slice A args.length c)∧w'.cell? ⟨g,0,none⟩=some (.int .i64 va)) v1:=by obtain⟨z0,z1,z2,z3,z4,z5⟩:=hS0;exact⟨(hcx 0).trans z0,(hcx 1).trans z1,(hcx 2).trans z2,(hcx 3).trans z3,(hcx 4).trans z4,(hcg 0).trans z5⟩
    have HB3:=hI ((HBD.o.trans (hb3.mono HBD.o.size)));refine hK.o _ _ (fun _=>hS1) ?_;clear hK hcx hcg hb3;try simp only[Act.put,pA,pB,pC]
    refine wone 5 fun K hK=>?_;go_simp;exact uZV
  · obtain⟨va,vb,rfl⟩:∃va vb,vs=[va,vb]:=by
     match vs,h1 with
     | [va,vb],_=>exact⟨va,vb,rfl⟩
    clear h1;have HRT:Jd (r=.ok (tTwo kind va vb,m')):=hI HR9.o.symm;have hown:=HOWN.o;obtain⟨g0,e0,y0⟩:=z9X (i:=0) hown (by simp);obtain⟨g1,e1,y1⟩:=z9X (i:=1) hown (by simp);obtain⟨g,hg⟩:∃g,A'=some ⟨g,0,none⟩:=⟨g0,e0⟩
    subst hg;obtain rfl:g=g0:=by injection e0 with e0;injection e0
    obtain rfl:g=g1:=by injection e1 with e1;injection e1
    simp only[List.length_cons,List.length_nil,Nat.zero_add,List.map_cons,List.map_nil,List.getElem?_cons_zero,List.getElem?_cons_succ,Nat.reduceAdd] at y0 y1 ⊢;obtain⟨⟨c0,_⟩,⟨c1,_⟩,⟨c2,_⟩,⟨c3,_⟩,c4,_⟩:=cb5 HXr.o;clear hown e0 e1;go_upto_region 21 with (fail);have HBD:Jd (Below wr.heap.size wr wr.drew):=hI (bdr (Below.refl _ _));have hS0:(fun w'=>w'.cell? ⟨W.heap.size,0,none⟩=some (.int .i64 kind)∧w'.cell? ⟨W.heap.size,1,none⟩=some (.int .i64 pos)∧w'.cell? ⟨W.heap.size,2,none⟩=some (.int .i64 num)∧w'.cell? ⟨W.heap.size,3,none⟩=some (.string name)∧w'.cell? ⟨W.heap.size,4,none⟩=some (.slice A args.length c)∧w'.cell? ⟨g,0,none⟩=some (.int .i64 va)∧w'.cell? ⟨g,1,none⟩=some (.int .i64 vb)) wr.drew:=⟨c0,c1,c2,c3,c4,y0,y1⟩
    have HLX:=hI (zh HXr.o);have HLG:Jd (g<wr.heap.size):=hI (HOWN.o.lt g rfl).2;refine wL (fun w'=>w'.cell? ⟨W.heap.size,0,none⟩=some (.int .i64 kind)∧w'.cell? ⟨W.heap.size,1,none⟩=some (.int .i64 pos)∧w'.cell? ⟨W.heap.size,2,none⟩=some (.int .i64 num)∧w'.cell? ⟨W.heap.size,3,none⟩=some (.string name)∧w'.cell? ⟨W.heap.size,4,none⟩=some (.slice A args.length c)∧w'.cell? ⟨g,0,none⟩=some (.int .i64 va)∧w'.cell? ⟨g,1,none⟩=some (.int .i64 vb)) 8 ?_;obtain⟨wd,hwd⟩:∃wd,wr.drew=wd:=⟨_,rfl⟩
    rw[hwd] at hS0 HBD ⊢;have HWD:Jd (wd.heap.size=wr.heap.size):=hI (by rw[←hwd];rfl);clear hwd c0 c1 c2 c3 c4 y0 y1;refine tg 0 70 (.agg #[kind,pos,num,name,.slice A args.length c]) hS0 ?_;refine tg 1 71 (.slice (some ⟨g,0,none⟩) 2 c') hS0 ?_;refine tg 2 72 (.pointer (some ⟨g,0,none⟩)) hS0 ?_;refine tg 3 73 (.int .i64 va) hS0 ?_;refine tg 4 74 (.slice (some ⟨g,0,none⟩) 2 c') hS0 ?_;refine tg 5 75 (.pointer (some ⟨g,1,none⟩)) hS0 ?_;refine tg 6 76 (.int .i64 vb) hS0 ?_;try simp only[Act.put,pA,pB,pC]
    refine wone 7 fun K hK=>?_;go_simp;refine (zzQ kind pos num name (.slice A args.length c) va vb wd).mono ?_;rintro e v1 ⟨rfl,hb3⟩;have hcx:∀o,v1.cell? ⟨W.heap.size,o,none⟩=wd.cell? ⟨W.heap.size,o,none⟩:=fun o=>hb3.cell (p:=⟨W.heap.size,o,none⟩) (by rw[HWD.o];exact HLX.o);have hcg:∀o,v1.cell? ⟨g,o,none⟩=wd.cell? ⟨g,o,none⟩:=fun o=>hb3.cell (p:=⟨g,o,none⟩) (by rw[HWD.o];exact HLG.o);have hS1:(fun w'=>w'.cell? ⟨W.heap.size,0,none⟩=some (.int .i64 kind)∧w'.cell? ⟨W.heap.size,1,none⟩=some (.int .i64 pos)∧w'.cell? ⟨W.heap.size,2,none⟩=some (.int .i64 num)∧w'.cell? ⟨W.heap.size,3,none⟩=some (.string name)∧w'.cell? ⟨W.heap.size,4,none⟩=some (.slice A args.length c)∧w'.cell? ⟨g,0,none⟩=some (.int .i64 va)∧w'.cell? ⟨g,1,none⟩=some (.int .i64 vb)) v1:=by obtain⟨z0,z1,z2,z3,z4,z5,z6⟩:=hS0;exact⟨(hcx 0).trans z0,(hcx 1).trans z1,(hcx 2).trans z2,(hcx 3).trans z3,(hcx 4).trans z4,(hcg 0).trans z5,(hcg 1).trans z6⟩
    have HB3:=hI ((HBD.o.trans (hb3.mono HBD.o.size)));refine hK.o _ _ (fun _=>hS1) ?_;clear hK hcx hcg hb3;try simp only[Act.put,pA,pB,pC]
    refine wone 8 fun K hK=>?_;go_simp;exact uZV
  obtain⟨va,vb,vc,rfl⟩:∃va vb vc,vs=[va,vb,vc]:=by
   match vs,h1 with
   | [va,vb,vc],_=>exact⟨va,vb,vc,rfl⟩
  clear h1;have HRT:Jd (r=.ok ((wSelect va vb vc:Nat),m')):=hI HR9.o.symm;have hown:=HOWN.o;obtain⟨g0,e0,y0⟩:=z9X (i:=0) hown (by simp);obtain⟨g1,e1,y1⟩:=z9X (i:=1) hown (by simp);obtain⟨g2,e2,y2⟩:=z9X (i:=2) hown (by simp);obtain⟨g,hg⟩:∃g,A'=some ⟨g,0,none⟩:=⟨g0,e0⟩
  subst hg;obtain rfl:g=g0:=by injection e0 with e0;injection e0
  obtain rfl:g=g1:=by injection e1 with e1;injection e1
  obtain rfl:g=g2:=by injection e2 with e2;injection e2
  simp only[List.length_cons,List.length_nil,Nat.zero_add,List.map_cons,List.map_nil,List.getElem?_cons_zero,List.getElem?_cons_succ,Nat.reduceAdd] at y0 y1 y2 ⊢;obtain⟨⟨c0,_⟩,⟨c1,_⟩,⟨c2,_⟩,⟨c3,_⟩,c4,_⟩:=cb5 HXr.o;clear hown e0 e1 e2;go_upto_region 22 with (fail);have HBD:Jd (Below wr.heap.size wr wr.drew):=hI (bdr (Below.refl _ _));have hS0:(fun w'=>w'.cell? ⟨W.heap.size,0,none⟩=some (.int .i64 kind)∧w'.cell? ⟨W.heap.size,1,none⟩=some (.int .i64 pos)∧w'.cell? ⟨W.heap.size,2,none⟩=some (.int .i64 num)∧w'.cell? ⟨W.heap.size,3,none⟩=some (.string name)∧w'.cell? ⟨W.heap.size,4,none⟩=some (.slice A args.length c)∧w'.cell? ⟨g,0,none⟩=some (.int .i64 va)∧w'.cell? ⟨g,1,none⟩=some (.int .i64 vb)∧w'.cell? ⟨g,2,none⟩=some (.int .i64 vc)) wr.drew:=⟨c0,c1,c2,c3,c4,y0,y1,y2⟩
  have HLX:=hI (zh HXr.o);have HLG:Jd (g<wr.heap.size):=hI (HOWN.o.lt g rfl).2;refine wL (fun w'=>w'.cell? ⟨W.heap.size,0,none⟩=some (.int .i64 kind)∧w'.cell? ⟨W.heap.size,1,none⟩=some (.int .i64 pos)∧w'.cell? ⟨W.heap.size,2,none⟩=some (.int .i64 num)∧w'.cell? ⟨W.heap.size,3,none⟩=some (.string name)∧w'.cell? ⟨W.heap.size,4,none⟩=some (.slice A args.length c)∧w'.cell? ⟨g,0,none⟩=some (.int .i64 va)∧w'.cell? ⟨g,1,none⟩=some (.int .i64 vb)∧w'.cell? ⟨g,2,none⟩=some (.int .i64 vc)) 10 ?_;obtain⟨wd,hwd⟩:∃wd,wr.drew=wd:=⟨_,rfl⟩
  rw[hwd] at hS0 HBD ⊢;have HWD:Jd (wd.heap.size=wr.heap.size):=hI (by rw[←hwd];rfl);clear hwd c0 c1 c2 c3 c4 y0 y1 y2;refine tg 0 78 (.slice (some ⟨g,0,none⟩) 3 c') hS0 ?_;refine tg 1 79 (.pointer (some ⟨g,0,none⟩)) hS0 ?_;refine tg 2 80 (.int .i64 va) hS0 ?_;refine tg 3 81 (.slice (some ⟨g,0,none⟩) 3 c') hS0 ?_;refine tg 4 82 (.pointer (some ⟨g,1,none⟩)) hS0 ?_;refine tg 5 83 (.int .i64 vb) hS0 ?_;refine tg 6 84 (.slice (some ⟨g,0,none⟩) 3 c') hS0 ?_;refine tg 7 85 (.pointer (some ⟨g,2,none⟩)) hS0 ?_;refine tg 8 86 (.int .i64 vc) hS0 ?_;try simp only[Act.put,pA,pB,pC]
  refine wone 9 fun K hK=>?_;go_simp;refine (zVq va vb vc wd).mono ?_;rintro e v1 ⟨rfl,rfl⟩;have HB3:=HBD;refine hK.o _ _ (fun _=>hS0) ?_;clear hK;try simp only[Act.put,pA,pB,pC]
  refine wone 10 fun K hK=>?_;go_simp;exact uZV
theorem zGv (hw:zOI k):∀B B0 fr fb nb Nf n d L F env bs m x v W,EvAt W B B0 fr fb nb Nf n L F env bs m→exSm x→zj (zO d) W B v x.args→tVal (k+1) F env m x≠.bad →
  Calls Tryz.prog 70 #[.pointer (some ⟨fr,0,none⟩),.agg (zem x v).toArray] W (zZ8 W B0 bs m (tVal (k+1) F env m x)):=by
 intro B B0 fr fb nb Nf n d L F env bs m x v W hev hsm hx hbad;obtain⟨kind,pos,num,name,args⟩:=x;by_cases k1:kind=1
 · exact zft B B0 fr fb nb Nf n d L F env bs m kind pos num name args v W k1 hev hsm hx hbad
 by_cases k2:kind=2
 · exact zYM B B0 fr fb nb Nf n d L F env bs m kind pos num name args v W k2 hev hsm hx hbad
 by_cases k3:kind=3
 · exact zHg hw B B0 fr fb nb Nf n d L F env bs m kind pos num name args v W k3 hev hsm hx hbad
 by_cases k4:kind=4
 · exact z1C hw B B0 fr fb nb Nf n d L F env bs m kind pos num name args v W k4 hev hsm hx hbad
 exact zyH hw B B0 fr fb nb Nf n d L F env bs m kind pos num name args v W k1 k2 k3 k4 hev hsm hx hbad
end
section
variable {B B0:Nat} {F:ByteArray→Option TFu} {L:List ByteArray} {Nf:Nat} {W W' W1:World} {a:TCl} {b1 bs:List Nat} {env:TEnv} {fb fr g i:Nat} {m m1:TMem} {n nb:Nat}
theorem zv {S:Nat→Prop} (k:Kp S W W') {b:Nat} {v:Value} (hq:¬S b) (hc:W.cell? ⟨b,i,none⟩=some v):W'.cell? ⟨b,i,none⟩=some v:=by
 cases e:W.heap[b]?
 case none=>simp[World.cell?,e] at hc
 rename_i x;rw[World.cell?_of_block (show W'.heap[(⟨b,i,none⟩:Addr).block]? = W.heap[(⟨b,i,none⟩:Addr).block]? from (k.blk b x hq e).trans e.symm)];exact hc
theorem NmAt.put (h:NmAt W nb L env bs m) (hL:L.length≤1048576) {x:ByteArray} (hx:x.size≤65536) (hxL:x∈L) (a:TCl) (g:Nat) :
  ∃W',(Instr.mapUpdate 80 (.map (some nb)) (.string x) (zVt a g)).run Tryz.prog W=.ok () W'∧W.grownBy W' (some nb) ∧
   ∀(bs':List Nat) (m':TMem) (c:Nat),Pre bs bs'→Shp m m'→m'[c]? = some a→bs'[c]? = some g→NmAt W' nb L (zSy env x c) bs' m':=by
 obtain⟨fm,h1,h0,h2⟩:=h
 obtain⟨W',r1,r2,r3⟩:=h1.store Tryz.underlying80 (by unfold maxLen;omega) x (zVt a g) (by unfold maxLen;omega)
 have hsup:∀y,(fun k=>if k=x then some (zVt a g) else fm k) y≠none→y∈L:=fun y hy=>by
  by_cases e:y=x
  · rw[e];exact hxL
  · simp only[if_neg e] at hy
    exact h0 y hy
 refine⟨W',r1,r3,fun bs' m' c hp hs hm hb=>⟨_,r2.tight L hsup,hsup,fun y=>?_⟩⟩
 by_cases e:y=x
 · have e1:zSy env x c y=some c:=by unfold zSy;rw[if_pos e]
   rw[e1]
   exact⟨a,g,hm,hb,by simp only[if_pos e]⟩
 · have e1:zSy env x c y=env y:=by unfold zSy;rw[if_neg e]
   rw[e1]
   have h3:=h2 y
   cases en:env y with
   | none=>trivial
   | some c' =>
    rw[en] at h3
    obtain⟨a',g',h4,h5,h6⟩:=h3
    obtain⟨a'',h7,h8,h9⟩:=hs c' a' h4
    exact⟨a'',g',h7,hp.at_ h5,by rw[zTX h8 h9];simp only[if_neg e];exact h6⟩
theorem zHU.push (h:zHU W B0 bs m) (hg:g∉bs) (hB:B0≤g) (ho:W.heap[g]? = some (zmX a)) (ha:ClOk a):zHU W B0 (bs++[g]) (m++[a]):=by
 refine⟨by simp[h.len],fun c x hc=>?_,fun i j q hi hj=>?_⟩
 · by_cases hlt:c<m.length
   · rw[List.getElem?_append_left hlt] at hc;obtain⟨g',h1,h2⟩:=h.at_ c x hc;exact⟨g',by rw[List.getElem?_append_left (by rw[h.len];exact hlt)];exact h1,h2⟩
   have hc2:c<(m++[a]).length:=(List.getElem?_eq_some_iff.1 hc).1;rw[List.length_append,List.length_singleton] at hc2;obtain rfl:c=m.length:=by omega
   rw[List.getElem?_append_right (Nat.le_refl _),Nat.sub_self] at hc;obtain rfl:a=x:=by simpa using hc
   exact⟨g,by rw[List.getElem?_append_right (by rw[h.len];exact Nat.le_refl _),h.len,Nat.sub_self];rfl,hB,ho,ha⟩
 have hcase:∀k q,(bs++[g])[k]? = some q→(k<bs.length∧bs[k]? = some q)∨(k=bs.length∧q=g):=fun k q hk=>by
  by_cases hlt:k<bs.length
  · rw[List.getElem?_append_left hlt] at hk;exact Or.inl ⟨hlt,hk⟩
  have hk2:k<(bs++[g]).length:=(List.getElem?_eq_some_iff.1 hk).1;rw[List.length_append,List.length_singleton] at hk2;obtain rfl:k=bs.length:=by omega
  rw[List.getElem?_append_right (Nat.le_refl _),Nat.sub_self] at hk;exact Or.inr ⟨rfl,by simpa using hk.symm⟩
 rcases hcase i q hi with⟨_,h1⟩ | ⟨h1,h2⟩
 · rcases hcase j q hj with⟨_,h3⟩ | ⟨h3,h4⟩
   · exact h.inj i j q h1 h3
   exact absurd (h4 ▸ List.mem_of_getElem? h1) hg
 rcases hcase j q hj with⟨_,h3⟩ | ⟨h3,h4⟩
 · exact absurd (h2 ▸ List.mem_of_getElem? h3) hg
 omega
theorem Shp.push (m:TMem) (a:TCl):Shp m (m++[a]):=fun c x hc=>⟨x,by rw[List.getElem?_append_left (List.getElem?_eq_some_iff.1 hc).1];exact hc,rfl,rfl⟩
theorem Pre.push (bs:List Nat) (g:Nat):Pre bs (bs++[g]):=⟨[g],rfl⟩
theorem EvAt.letS (h:EvAt W B B0 fr fb nb Nf n L F env bs m) (k:EvOk W B0 bs m W1 b1 m1) (ha:ClOk a) (hgn:g∉b1) (hgW:W.heap.size≤g) (hg:W1.heap[g]? = some (zmX a))
  {x:ByteArray} (hr:W1.grownBy W' (some nb)) (hn:∀(bs':List Nat) (m':TMem) (c:Nat),Pre b1 bs'→Shp m1 m'→m'[c]? = some a→bs'[c]? = some g→NmAt W' nb L (zSy env x c) bs' m') :
  zNS W B0 nb L bs m W' (zSy env x m1.length) (b1++[g]) (m1++[a]):=by
 have hgn2:g≠nb:=fun e=>by have:=h.nf.2.2.2;omega
 have hblk:∀q y,q≠nb→W1.heap[q]? = some y→W'.heap[q]? = some y:=fun q y hq hy=>(hr.block q (zh hy) (fun e=>hq (by injection e))).trans hy
 have hnb:∀q∈b1,q≠nb:=fun q hq e=>by
  rcases k.new q hq with h1 | h1
  · exact (h.far q h1).2.2 e
  have:=h.nf.2.2.2;omega
 refine⟨k.pre.trans (Pre.push _ _),fun q hq=>?_,?_,hn _ _ _ (Pre.push _ _) (Shp.push _ _) (by rw[List.getElem?_append_right (Nat.le_refl _),Nat.sub_self];rfl) (by rw[←k.mem.len,List.getElem?_append_right (Nat.le_refl _),Nat.sub_self];rfl),k.shp.trans (Shp.push _ _),⟨hr.os.trans k.kp.os,hr.tape.trans k.kp.tape,hr.output.trans k.kp.output,Nat.le_trans k.kp.siz hr.size,fun q y hq hy=>?_⟩⟩
 · rcases List.mem_append.1 hq with h1 | h1
   · exact k.new q h1
   rw[List.mem_singleton.1 h1];exact Or.inr hgW
 · refine zHU.push ⟨k.mem.len,fun c y hc=>?_,k.mem.inj⟩ hgn (Nat.le_trans h.le.2 hgW) (hblk g _ hgn2 hg) ha;obtain⟨q,h1,h2,h3,h4⟩:=k.mem.at_ c y hc;exact⟨q,h1,h2,hblk q _ (hnb q (List.mem_of_getElem? h1)) h3,h4⟩
 exact hblk q y (fun e=>hq (Or.inr e)) (k.kp.blk q y (fun h9=>hq (Or.inl h9)) hy)
theorem EvAt.putS {m2:TMem} (h:EvAt W B B0 fr fb nb Nf n L F env bs m) (k:EvOk W B0 bs m W1 b1 m1) {c:Nat} (hm:m1[c]? = some a) (hb:b1[c]? = some g) (hi:i<a.l.length) {v:Int}
  (hs:zbN m1 c (i:Int) v=.ok m2):EvOk W B0 bs m (W1.setCell ⟨g,i,none⟩ (if a.oct=true then .int .u8 (v % 256) else .int .i64 (v % 4294967296))) b1 m2:=by
 unfold zbN at hs;rw[hm] at hs;simp only at hs;rw[if_pos ⟨by omega,by rw[Int.toNat_natCast];exact hi⟩,Int.toNat_natCast] at hs;cases hs;obtain⟨g',e1,e2,e3,e4⟩:=k.mem.at_ c a hm;rw[hb] at e1;cases e1;have hcm:c<m1.length:=(List.getElem?_eq_some_iff.1 hm).1;have hgm:g∈b1:=List.mem_of_getElem? hb;refine⟨k.pre,k.new,⟨by rw[List.length_set];exact k.mem.len,fun c' x hc'=>?_,k.mem.inj⟩,k.shp.trans (fun c' x hc'=>?_),k.kp.set _ (k.new g hgm)⟩
 · by_cases e:c'=c
   · subst e;rw[List.getElem?_set_self hcm] at hc';cases hc';refine⟨g,hb,e2,?_,⟨by simp only[List.length_set];exact e4.pos,by simp only[List.length_set];exact e4.most,fun ho u hu=>?_⟩⟩
     · unfold zmX at e3 ⊢;cases ho:a.oct
       case true=>rw[ho] at e3;simp only[if_true] at e3 ⊢;rw[zPw e3,z0A]
       rw[ho] at e3;simp only[Bool.false_eq_true,if_false] at e3 ⊢;rw[zPw e3,zyD]
     simp only at ho hu;rw[ho] at hu;simp only[if_true] at hu;rcases List.mem_or_eq_of_mem_set hu with h1 | h1
     · exact e4.val ho u h1
     omega
   rw[List.getElem?_set_ne (Ne.symm e)] at hc';obtain⟨q,h1,h2,h3,h4⟩:=k.mem.at_ c' x hc';exact⟨q,h1,h2,z6d h3 _ _ (fun e9=>e (k.mem.inj c' c q h1 (e9 ▸ hb))),h4⟩
 by_cases e:c'=c
 · subst e;rw[hm] at hc';cases hc';exact⟨_,List.getElem?_set_self hcm,rfl,by simp only[List.length_set]⟩
 exact⟨x,by rw[List.getElem?_set_ne (Ne.symm e)];exact hc',rfl,rfl⟩
theorem EvAt.toS (h:EvAt W B B0 fr fb nb Nf n L F env bs m) (k:EvOk W B0 bs m W1 b1 m1):zNS W B0 nb L bs m W1 env b1 m1 :=
 ⟨k.pre,k.new,k.mem,(h.step k).nm,k.shp,⟨k.kp.os,k.kp.tape,k.kp.output,k.kp.siz,fun q x hq hx=>k.kp.blk q x (fun h9=>hq (Or.inl h9)) hx⟩⟩
end
theorem zXS (TS T:TypeId) (z:Value) (sz by_:Nat) (hs:Tryz.prog.underlying TS=some (.slice T)) (hi:(Tryz.prog.info? T).map (fun i=>(i.zero,i.size,i.bytes))=some (some z,sz,by_)) (hzs:z.cells.size=sz) (h0:0<sz) (hby:by_≤1000)
  (w:World) (base:Nat) (v:Value) (n:Nat) (ys:List Value) (hown:w.ownsRow base T sz v n ys) (es:List Value) (hl:es.length=sz) (h1:∀u∈es,u.oneCell'=true) (hn:n≤2000000) (hbase:base≤w.heap.size) :
  ∃v' w',(Builtin.append_ #[TS,TS] TS #[v,.slice (some ⟨w.heap.size,0,none⟩) 1 1]).run Tryz.prog (w.alloc (.cells es.toArray T))=.ok v' w'∧w'.ownsRow base T sz v' (n+1) (ys++es)∧(w.alloc (.cells es.toArray T)).grownBy w' v.ownBlock∧(v'.ownBlock=v.ownBlock∨v'.ownBlock=some (w.heap.size+1)):=by
 obtain⟨i0,hi,hz0,hz1,hz2⟩:=zQk hi;have hb:(n+1)*by_≤2000001*1000:=Nat.mul_le_mul (by omega) hby
 obtain⟨v',w',r1,r2,r3,r4⟩:=run_append_own_at (P:=Tryz.prog) (w.alloc (.cells es.toArray T)) base TS TS T i0 z sz by_ hs hi hz0 hz1 hz2 hzs h0 v n ys (hown.alloc _) ⟨w.heap.size,0,none⟩ 1 1 es (by rw[hl,Nat.one_mul]) (World.news_of_block (heap_alloc_new w _)) h1 (by unfold maxLen;omega) (by omega) (by simp;omega);have e:(w.alloc (.cells es.toArray T)).heap.size=w.heap.size+1:=by simp
 rw[e] at r4;exact⟨v',w',r1,r2,r3,r4.2⟩
section
variable {B B':Nat} {T:Type} {E:Enc T} {X:Nat} {Z:List Nat} {a:World} {es:List Value} {k:Nat} {l:List T} {lo m n:Nat} {p:Addr} {q:Nat} {r row:Option Nat} {t:TypeId} {v:Value} {w w':World}
def MkW (n:Nat) (Z:List Nat) (w:World):World:={ w with heap:=w.heap.mapIdx fun i o=>if i<n∨i∈Z then .cells #[] 0 (0,0) else o }
theorem z0S (h:n≤k) (hz:k∉Z):(MkW n Z w).heap[k]? = w.heap[k]? := by
 simp only[MkW,Array.getElem?_mapIdx];cases w.heap[k]?
 case none=>rfl
 rename_i o;simp only[Option.map_some];rw[if_neg (fun h9=>h9.elim (fun h9=>by omega) hz)]
theorem zrQ (h:n≤p.block) (hz:p.block∉Z):(MkW n Z w).cell? p=w.cell? p:=World.cell?_of_block (z0S h hz)
theorem zGT (h:p.block<n∨p.block∈Z):(MkW n Z w).cell? p=none:=by
 have e:(MkW n Z w).heap[p.block]? = none∨(MkW n Z w).heap[p.block]? = some (.cells #[] 0 (0,0)):=by
  simp only[MkW,Array.getElem?_mapIdx];cases w.heap[p.block]?
  case none=>exact Or.inl rfl
  rename_i o;refine Or.inr ?_;simp only[Option.map_some];rw[if_pos h]
 unfold World.cell?;rcases e with e | e
 · rw[e]
 rw[e];simp
theorem z17 {u:Value} (h:(MkW n Z w).cell? p=some u):n≤p.block∧p.block∉Z∧w.cell? p=some u:=by
 by_cases e:p.block<n∨p.block∈Z
 · rw[zGT e] at h;cases h
 have h1:n≤p.block:=Nat.le_of_not_lt (fun h=>e (Or.inl h));have h2:p.block∉Z:=fun h=>e (Or.inr h);rw[zrQ h1 h2] at h;exact⟨h1,h2,h⟩
theorem zLd (n:Nat) (Z:List Nat) (w:World):(MkW n Z w).heap.size=w.heap.size:=by simp[MkW]
abbrev LoW (n:Nat) (w:World):World:=MkW n [] w
theorem zS5 (h:n≤k):(LoW n w).heap[k]? = w.heap[k]? := z0S h (by simp)
theorem z8K (h:n≤p.block):(LoW n w).cell? p=w.cell? p:=zrQ h (by simp)
theorem z4v (h:p.block<n):(LoW n w).cell? p=none:=zGT (Or.inl h)
theorem zeY (n:Nat) (w:World):(LoW n w).heap.size=w.heap.size:=zLd _ _ _
section
variable {T:Type} {E:Enc T} {w w':World} {n B:Nat}
theorem zFp {t:T} (h:E.rep (LoW n w) B es t) (hk:∀p:Addr,n≤p.block→p.block<B→w'.cell? p=w.cell? p):E.rep (LoW n w') B es t:=E.keep h (Nat.le_refl _) fun p hp=>by
 by_cases e:n≤p.block
 · rw[z8K e,z8K e];exact hk p e hp
 · rw[z4v (by omega),z4v (by omega)]
theorem zpT {t:T} (h:E.rep (LoW n w) B es t) (hg:w.grownBy w' row) (hB:B≤w.heap.size) (hr:∀g,row=some g→g<n∨B≤g):E.rep (LoW n w') B es t:=zFp h fun p h1 h2 =>
 World.cell?_of_block (hg.block _ (by omega) (fun e=>by have:=hr _ e.symm;omega))
end
def zOH {T:Type} (E:Enc T):Prop:=∀{w w':World} {B B':Nat} {es:List Value} {t:T},E.rep w B es t→B≤B'→(∀(p:Addr) (u:Value),p.block<B→w.cell? p=some u→w'.cell? p=some u)→E.rep w' B' es t
theorem zj.some_ (hE:zOH E) (h:zj E w B v l) (hB:B≤B') (hk:∀(p:Addr) (u:Value),p.block<B→w.cell? p=some u→w'.cell? p=some u):zj E w' B' v l:=by
 obtain⟨A,c,e,hc,h⟩:=h;refine⟨A,c,e,hc,fun k t ht=>?_⟩;obtain⟨b,off,es,e1,h1,h2,h3⟩:=h k t ht;exact⟨b,off,es,e1,by omega,hE h2 hB hk,fun j u hu=>hk _ _ h1 (h3 j u hu)⟩
theorem zZK:∀n,zOH (zO n)
 | 0=>fun h _ _=>h.elim
 | n+1=>fun h hB hk=>by
  obtain⟨h0,v,e,h1⟩:=h
  exact⟨h0,v,e,h1.some_ (zZK n) hB hk⟩
theorem z92:zOH zGc:=fun h _ _=>h
theorem zmx:∀n,zOH (zM n)
 | 0=>fun h _ _=>h.elim
 | n+1=>fun h hB hk=>by
  obtain⟨h0,va,vb,ve,e,h1,h2,h3⟩:=h
  exact⟨h0,va,vb,ve,e,h1.some_ (zZK n) hB hk,h2.some_ (zmx n) hB hk,h3.some_ (zmx n) hB hk⟩
theorem zNi (n:Nat):zOH (zHM n):=fun h hB hk=>by
 obtain⟨h0,vp,vb,e,h1,h2⟩:=h
 exact⟨h0,vp,vb,e,h1.some_ z92 hB hk,h2.some_ (zmx n) hB hk⟩
theorem zMa (hm:m≤n) (p:Addr) (u:Value) (h:(LoW n w).cell? p=some u):(LoW m w).cell? p=some u:=by
 by_cases e:n≤p.block
 · rw[z8K e] at h;rw[z8K (by omega)];exact h
 rw[z4v (by omega)] at h;cases h
theorem z5f (p:Addr) (u:Value) (h:(LoW n w).cell? p=some u):w.cell? p=some u:=by
 by_cases e:n≤p.block
 · rw[z8K e] at h;exact h
 rw[z4v (by omega)] at h;cases h
theorem zj.weak (hE:zOH E) (h:zj E (LoW n w) B v l) (hm:m≤n) (hB:B≤B'):zj E (LoW m w) B' v l:=h.some_ hE hB fun p u _=>zMa hm p u
theorem zj.plain (hE:zOH E) (h:zj E (LoW n w) B v l) (hB:B≤B'):zj E w B' v l:=h.some_ hE hB fun p u _=>z5f p u
theorem zj.up {E':Enc T} (hs:E'.size=E.size) (hu:∀{w B es t},E.rep w B es t→E'.rep w B es t) (h:zj E w B v l):zj E' w B v l:=by
 obtain⟨A,c,e,hc,h⟩:=h;refine⟨A,c,e,hc,fun k t ht=>?_⟩;obtain⟨b,off,es,e1,h1,h2,h3⟩:=h k t ht;exact⟨b,off,es,e1,h1,hu h2,fun j u hu=>by rw[hs];exact h3 j u hu⟩
theorem zrp:∀(n:Nat) {w:World} {B:Nat} {es:List Value} {t:TEx},(zO n).rep w B es t→(zO (n+1)).rep w B es t
 | 0,_,_,_,_,h=>h.elim
 | n+1,_,_,_,_,h=>by
  obtain⟨h0,v,e,h1⟩:=h
  exact⟨h0,v,e,h1.up (by rw[zWx,zWx]) (fun h=>zrp n h)⟩
theorem zpN:∀(n:Nat) {w:World} {B:Nat} {es:List Value} {t:TSt},(zM n).rep w B es t→(zM (n+1)).rep w B es t
 | 0,_,_,_,_,h=>h.elim
 | n+1,_,_,_,_,h=>by
  obtain⟨h0,va,vb,ve,e,h1,h2,h3⟩:=h
  exact⟨h0,va,vb,ve,e,h1.up (by rw[zWx,zWx]) (fun h=>zrp n h),h2.up (by rw[zYp,zYp]) (fun h=>zpN n h),h3.up (by rw[zYp,zYp]) (fun h=>zpN n h)⟩
def z2u {T:Type} (E:Enc T) (w:World) (lo:Nat) (t:TypeId) (v:Value) (l:List T):Prop :=
 ∃cs:List (List Value),cs.length=l.length∧(∀es∈cs,es.length=E.size)∧w.ownsRow lo t E.size v l.length cs.flatten∧lo≤w.heap.size ∧
  ∀(k:Nat) (x:T),l[k]? = some x→∃es n B,cs[k]? = some es∧lo≤n∧B≤w.heap.size∧(∀g,v.ownBlock=some g→g<n∨B≤g)∧E.rep (LoW n w) B es x
theorem z2u.nil_ (h:lo≤w.heap.size):z2u E w lo t (.slice none 0 0) []:=⟨[],rfl,by simp,World.ownsRow_nil _ _ _ _,h,by simp⟩
theorem z2u.len (h:z2u E w lo t v l):∃A c,v=.slice A l.length c:=by
 obtain⟨cs,_,_,h3,_⟩:=h;exact zfk h3
theorem z2u.own (h:z2u E w lo t v l):∀g,v.ownBlock=some g→lo≤g∧g<w.heap.size:=by
 obtain⟨cs,_,_,h3,_⟩:=h;exact h3.lt
theorem z2u.step (h:z2u E w lo t v l) (hg:w.grownBy w' row) (hr:∀g,row=some g→g<lo∨w.heap.size≤g):z2u E w' lo t v l:=by
 obtain⟨cs,h1,h2,h3,h4,h5⟩:=h;refine⟨cs,h1,h2,h3.kept hg ?_,Nat.le_trans h4 hg.size,fun k x hk=>?_⟩
 · cases hv:v.ownBlock
   case none=>exact .inl rfl
   rename_i g;exact .inr (fun e=>by have:=hr g e.symm;have:=h3.lt g hv;omega)
 obtain⟨es,n,B,e1,e2,e3,e4,e5⟩:=h5 k x hk;exact⟨es,n,B,e1,e2,Nat.le_trans e3 hg.size,e4,zpT e5 hg e3 (fun g e=>by have:=hr g e;omega)⟩
theorem gtr {b c:World} (h:a.grownBy b r) (k:b.grownBy c r):a.grownBy c r :=
 ⟨k.os.trans h.os,k.tape.trans h.tape,k.output.trans h.output,Nat.le_trans h.size k.size,fun i hi hne=>(k.block i (Nat.lt_of_lt_of_le hi h.size) hne).trans (h.block i hi hne)⟩
theorem zUl (h:a.grownBy w r) (hb:Below w.heap.size w w'):a.grownBy w' r :=
 ⟨hb.os.trans h.os,hb.tape.trans h.tape,hb.output.trans h.output,Nat.le_trans h.size hb.size,fun k hk hne=>(hb.block k (Nat.lt_of_lt_of_le hk h.size)).trans (h.block k hk hne)⟩
theorem zeK (hb:Below w.heap.size w w'):w.grownBy w' r:=zUl (World.grownBy.refl w r) hb
theorem z2u.app (TS t:TypeId) (z:Value) (sz by_:Nat) (h:z2u E w lo t v l) (hsz:E.size=sz)
  (hs:Tryz.prog.underlying TS=some (.slice t)) (hi:(Tryz.prog.info? t).map (fun i=>(i.zero,i.size,i.bytes))=some (some z,sz,by_)) (hzs:z.cells.size=sz) (h0:0<sz) (hby:by_≤1000) (hn:l.length≤2000000)
  {es:List Value} {x:T} {n B:Nat} (he:E.rep (LoW n w) B es x) (h1:∀u∈es,u.oneCell'=true) (hlo:lo≤n) (hB:B≤w.heap.size) (hown:∀g,v.ownBlock=some g→g<n∨B≤g) :
  ∃v' w',(Builtin.append_ #[TS,TS] TS #[v,.slice (some ⟨w.heap.size,0,none⟩) 1 1]).run Tryz.prog (w.alloc (.cells es.toArray t))=.ok v' w'∧z2u E w' lo t v' (l++[x])∧(w.alloc (.cells es.toArray t)).grownBy w' v.ownBlock:=by
 subst hsz;obtain⟨cs,q1,q2,q3,q4,q5⟩:=h;have hlen:=E.len he;obtain⟨v',w',r1,r2,r3,r4⟩:=zXS TS t z E.size by_ hs hi hzs h0 hby w lo v l.length cs.flatten q3 es hlen h1 hn q4;have hsz:w.heap.size≤w'.heap.size:=by have:=r3.size;simp at this;omega
 have hkeep:∀{n B:Nat} {es:List Value} {x:T},B≤w.heap.size→(∀g,v.ownBlock=some g→g<n∨B≤g)→E.rep (LoW n w) B es x→E.rep (LoW n w') B es x:=fun hB hv hr=>zpT (zpT hr (World.grownBy_alloc w _ v.ownBlock) hB hv) r3 (by simp;omega) hv
 have hv':∀{n B:Nat},B≤w.heap.size→(∀g,v.ownBlock=some g→g<n∨B≤g)→∀g,v'.ownBlock=some g→g<n∨B≤g:=fun hB hv g hg=>by
  rcases r4 with r4 | r4
  · exact hv g (r4 ▸ hg)
  rw[r4] at hg;injection hg with hg;omega
 refine⟨v',w',r1,⟨cs++[es],by simp[q1],fun e he'=>?_,?_,by omega,fun k y hk=>?_⟩,r3⟩
 · rcases List.mem_append.1 he' with h | h
   · exact q2 e h
   rw[List.mem_singleton.1 h];exact hlen
 · simpa using r2
 by_cases hlt:k<l.length
 · rw[List.getElem?_append_left hlt] at hk;obtain⟨es',n',B',e1,e2,e3,e4,e5⟩:=q5 k y hk;exact⟨es',n',B',by rw[List.getElem?_append_left (by rw[q1];exact hlt)];exact e1,e2,by omega,hv' e3 e4,hkeep e3 e4 e5⟩
 have hk2:=(List.getElem?_eq_some_iff.1 hk).1;rw[List.length_append,List.length_singleton] at hk2;obtain rfl:k=l.length:=by omega
 rw[List.getElem?_append_right (Nat.le_refl _),Nat.sub_self] at hk;obtain rfl:x=y:=by simpa using hk
 exact⟨es,n,B,by rw[List.getElem?_append_right (by omega),q1,Nat.sub_self];rfl,hlo,by omega,hv' hB hown,hkeep hB hown he⟩
theorem z2u.done (hE:zOH E) (h:z2u E w lo t v l):zj E (LoW lo w) w.heap.size v l:=by
 obtain⟨cs,q1,q2,q3,q4,q5⟩:=h;have hg:w.grownBy (LoW lo w) none∨True:=Or.inr trivial
 have hown:(LoW lo w).ownsRow lo t E.size v l.length cs.flatten:=by
  refine⟨q3.1,?_⟩;rcases q3.2 with h2 | ⟨g,cap,cur,e,hb,hgg,rest⟩
  · exact .inl h2
  exact .inr ⟨g,cap,cur,e,hb,by rw[zS5 hb];exact hgg,rest⟩
 refine zvI l cs (fun i x hi=>?_) q2 (by rw[zeY];exact Nat.le_refl _) hown;obtain⟨es,n,B,e1,e2,e3,e4,e5⟩:=q5 i x hi;exact⟨es,e1,hE e5 e3 (fun p u _=>zMa e2 p u)⟩
def setL (w:World) (X:Nat):Nat→List Value→World
 | _,[]=>w
 | o,v::l=>setL (w.setCell ⟨X,o,none⟩ v) X (o+1) l
theorem zC (X:Nat):∀(l:List Value) (w:World) (o:Nat),w.grownBy (setL w X o l) (some X)
 | [],w,o=>World.grownBy.refl _ _
 | v::l,w,o=>gtr (zjV w ⟨X,o,none⟩ v) (zC X l _ (o+1))
theorem zwM (X:Nat):∀(l:List Value) (w:World) (o:Nat) (cs:List Value),w.heap[X]? = some (.cells cs.toArray t (0,0))→o+l.length≤cs.length→(setL w X o l).heap[X]? = some (.cells (cs.take o++l++cs.drop (o+l.length)).toArray t (0,0))
 | [],w,o,cs,h,_=>by simpa [setL] using h
 | v::l,w,o,cs,h,hl=>by
  simp only[List.length_cons] at hl
  have h2:=zPw h o v
  rw[List.setIfInBounds_toArray] at h2
  have h3:=zwM X l (w.setCell ⟨X,o,none⟩ v) (o+1) (cs.set o v) h2 (by rw[List.length_set];omega)
  show (setL (w.setCell ⟨X,o,none⟩ v) X (o+1) l).heap[X]? = _
  rw[h3]
  have e1:(cs.set o v).take (o+1)=cs.take o++[v]:=by
   rw[List.take_set,List.take_succ_eq_append_getElem (by omega),List.set_append]
   simp[List.length_take,Nat.min_eq_left (show o≤cs.length by omega)]
  have e2:(cs.set o v).drop (o+1+l.length)=cs.drop (o+(l.length+1)):=by
   rw[List.drop_set,if_pos (by omega)]
   congr 1;omega
  rw[e1,e2,List.length_cons]
  simp
theorem zdc {cs:List Value} (l:List Value) (h:w.heap[X]? = some (.cells cs.toArray t (0,0))) (hl:cs.length=l.length):(setL w X 0 l).heap[X]? = some (.cells l.toArray t (0,0)):=by
 have h1:=zwM X l w 0 cs h (by omega);rw[List.take_zero,List.nil_append,Nat.zero_add,←hl,List.drop_length,List.append_nil] at h1;exact h1
theorem z8Y (h:Below B a w) (hX:B≤X) (o:Nat) (l:List Value) (hB:B≤w.heap.size):Below B a (setL w X o l):=h.grown (zC X l w o) hB (fun k e=>by injection e with e;omega)
theorem zWH {S:Nat→Prop} {W W':World} (k:Kp S W W') (hq:¬S p.block) (hc:W.cell? p=some v):W'.cell? p=some v:=by
 cases e:W.heap[p.block]?
 case none=>simp[World.cell?,e] at hc
 rename_i x;rw[World.cell?_of_block ((k.blk p.block x hq e).trans e.symm)];exact hc
structure zOU where
 p:World→Nat→Prop
 mono:∀{w w':World} {B B':Nat},p w B→B≤B'→(∀(a:Addr) (u:Value),a.block<B→w.cell? a=some u→w'.cell? a=some u)→p w' B'
def slT {T:Type} {E:Enc T} (hE:zOH E) (v:Value) (l:List T):zOU:=⟨fun w B=>zj E w B v l,fun h hB hk=>h.some_ hE hB hk⟩
structure Frm (S:Nat→Prop) (W w:World) (bs:List (Nat×TypeId×List Value)) (ts:List zOU):Prop where
 kp:Kp S W w
 old:∀b∈bs,W.heap.size≤b.1
 sub:∀q,S q→q<W.heap.size
 blk:∀b∈bs,w.heap[b.1]? = some (.cells b.2.2.toArray b.2.1 (0,0))
 dis:(bs.map (fun b=>b.1)).Pairwise (fun x y=>x≠y)
 tr:∀T∈ts,T.p (MkW W.heap.size (bs.map (fun b=>b.1)) w) w.heap.size
section
variable {S:Nat→Prop} {W w w':World} {bs:List (Nat×TypeId×List Value)} {ts:List zOU}
theorem Frm.start (W:World) (hS:∀q,S q→q<W.heap.size):Frm S W W [] []:=⟨Kp.refl _ _,by simp,hS,by simp,by simp,by simp⟩
theorem Frm.at_ (h:Frm S W w bs ts) (j:Nat) (hj:bs[j]? = some (X,t,es)):w.heap[X]? = some (.cells es.toArray t (0,0)):=h.blk _ (List.mem_of_getElem? hj)
theorem Frm.far (h:Frm S W w bs ts) (j:Nat) (hj:bs[j]? = some (X,t,es)) (hq:S q):q<X:=Nat.lt_of_lt_of_le (h.sub q hq) (h.old _ (List.mem_of_getElem? hj))
theorem Frm.call (h:Frm S W w bs ts) (k:Kp S w w'):Frm S W w' bs ts:=by
 refine⟨h.kp.trans k (fun q _ hs=>hs),h.old,h.sub,fun b hb=>?_,h.dis,fun T hT=>T.mono (h.tr T hT) k.siz fun a u _ hc=>?_⟩
 · exact k.blk _ _ (fun hs=>by have:=h.sub _ hs;have:=h.old b hb;omega) (h.blk b hb)
 obtain⟨h1,h2,h3⟩:=z17 hc;rw[zrQ h1 h2];exact zWH k (fun hs=>by have:=h.sub _ hs;omega) h3
theorem Frm.below (h:Frm S W w bs ts) (hb:Below w.heap.size w w'):Frm S W w' bs ts:=h.call (Kp.of_below hb)
theorem Frm.drew (h:Frm S W w bs ts):Frm S W w.drew bs ts:=h.below (bdr (Below.refl _ _))
theorem Frm.callT (h:Frm S W w bs ts) (k:Kp S w w') (T:zOU) (ht:T.p (LoW w.heap.size w') w'.heap.size):Frm S W w' bs (T::ts):=by
 have h':=h.call k;refine⟨h'.kp,h'.old,h'.sub,h'.blk,h'.dis,fun T' hT=>?_⟩;rcases List.mem_cons.1 hT with rfl | hT
 · refine T'.mono ht (Nat.le_refl _) fun a u _ hc=>?_;obtain⟨h1,_,h3⟩:=z17 hc;rw[zrQ (Nat.le_trans h.kp.siz h1) (fun hm=>?_)]
   · exact h3
   obtain⟨b,hb,e⟩:=List.mem_map.1 hm;have:=zh (h.blk b hb);rw[e] at this;omega
 exact h'.tr T' hT
theorem Frm.alloc (h:Frm S W w bs ts) (t:TypeId) (es:List Value):Frm S W (w.alloc (.cells es.toArray t)) ((w.heap.size,t,es)::bs) ts:=by
 have hb:=bnew w (.cells es.toArray t);have h':=h.below hb;refine⟨h'.kp,fun b hm=>?_,h.sub,fun b hm=>?_,?_,fun T hT=>T.mono (h.tr T hT) hb.size fun a u ha hc=>?_⟩
 · rcases List.mem_cons.1 hm with rfl | hm
   · exact h.kp.siz
   exact h.old b hm
 · rcases List.mem_cons.1 hm with rfl | hm
   · exact heap_alloc_new w _
   exact h'.blk b hm
 · rw[List.map_cons];refine List.pairwise_cons.2 ⟨fun x hx=>?_,h.dis⟩;obtain⟨b,hm,rfl⟩:=List.mem_map.1 hx;have:=zh (h.blk b hm);omega
 obtain⟨h1,h2,h3⟩:=z17 hc;rw[zrQ h1 (fun hm=>?_)]
 · rw[hb.cell ha];exact h3
 rw[List.map_cons] at hm;rcases List.mem_cons.1 hm with e | hm
 · omega
 exact h2 hm
theorem zOn (bs:List (Nat×TypeId×List Value)) (j:Nat) {fs:List Value} (hj:bs[j]? = some (X,t,es)):(bs.set j (X,t,fs)).map (fun b=>b.1)=bs.map (fun b=>b.1):=by
 apply List.ext_getElem?;intro i;rw[List.getElem?_map,List.getElem?_map,List.getElem?_set];by_cases e:j=i
 · subst e;rw[hj];simp[(List.getElem?_eq_some_iff.1 hj).1]
 rw[if_neg e]
theorem Frm.set (h:Frm S W w bs ts) (j:Nat) (hj:bs[j]? = some (X,t,es)) (k:Nat) (v:Value):Frm S W (w.setCell ⟨X,k,none⟩ v) (bs.set j (X,t,es.set k v)) ts:=by
 have hm:=List.mem_of_getElem? hj;have hX:=h.old _ hm;simp only at hX;have hmap:=zOn bs j (fs:=es.set k v) hj;refine⟨h.kp.set v (Or.inr hX),fun b hb=>?_,h.sub,fun b hb=>?_,by rw[hmap];exact h.dis,fun T hT=>?_⟩
 · rcases List.mem_or_eq_of_mem_set hb with h1 | rfl
   · exact h.old b h1
   exact hX
 · obtain⟨i,hi⟩:=List.mem_iff_getElem?.1 hb;rw[List.getElem?_set] at hi;by_cases e:j=i
   · subst e;rw[if_pos rfl,if_pos (List.getElem?_eq_some_iff.1 hj).1] at hi;cases hi;have h2:=zPw (h.at_ j hj) k v;rw[List.setIfInBounds_toArray] at h2;exact h2
   rw[if_neg e] at hi
   have hne:b.1≠X:=fun e1=>by
    have hp:=h.dis;rw[List.pairwise_iff_getElem] at hp;obtain⟨l1,g1⟩:=List.getElem?_eq_some_iff.1 hj;obtain⟨l2,g2⟩:=List.getElem?_eq_some_iff.1 hi;rcases Nat.lt_or_gt_of_ne e with h3 | h3
    · exact hp j i (by simpa using l1) (by simpa using l2) h3 (by simp[g1,g2,e1])
    exact hp i j (by simpa using l2) (by simpa using l1) h3 (by simp[g1,g2,e1])
   rw[Below.heap_setCell w ⟨X,k,none⟩ v b.1 hne];exact h.blk b (List.mem_of_getElem? hi)
 rw[hmap];refine T.mono (h.tr T hT) (by simp[World.setCell]) fun a u _ hc=>?_;obtain⟨h1,h2,h3⟩:=z17 hc;rw[zrQ h1 h2,World.cell?_of_block (Below.heap_setCell w ⟨X,k,none⟩ v a.block (fun e=>h2 (List.mem_map.2 ⟨_,hm,e.symm⟩)))];exact h3
theorem Frm.fill (h:Frm S W w bs ts) (j:Nat) (hj:bs[j]? = some (X,t,es)) (fs:List Value) (hl:es.length=fs.length):Frm S W (setL w X 0 fs) (bs.set j (X,t,fs)) ts:=by
 have aux:∀(fs:List Value) (w:World) (bs:List (Nat×TypeId×List Value)) (o:Nat) (es:List Value),Frm S W w bs ts→bs[j]? = some (X,t,es)→o+fs.length≤es.length→Frm S W (setL w X o fs) (bs.set j (X,t,es.take o++fs++es.drop (o+fs.length))) ts:=by
  intro fs;induction fs with
  | nil =>
   intro w bs o es h hj _
   have e:bs.set j (X,t,es.take o++[]++es.drop (o+0))=bs:=by
    rw[List.append_nil,Nat.add_zero,List.take_append_drop];apply List.ext_getElem?;intro i;rw[List.getElem?_set];by_cases e:j=i
    · subst e;rw[if_pos rfl,if_pos (List.getElem?_eq_some_iff.1 hj).1,hj]
    rw[if_neg e]
   show Frm S W w (bs.set j (X,t,es.take o++[]++es.drop (o+0))) ts;rw[e];exact h
  | cons v fs ih =>
   intro w bs o es h hj hl;simp only[List.length_cons] at hl;have h2:=h.set j hj o v;have h3:=ih _ _ (o+1) (es.set o v) h2 (by rw[List.getElem?_set_self (List.getElem?_eq_some_iff.1 hj).1]) (by rw[List.length_set];omega);have e1:(es.set o v).take (o+1)=es.take o++[v]:=by rw[List.take_set,List.take_succ_eq_append_getElem (by omega),List.set_append];simp[List.length_take,Nat.min_eq_left (show o≤es.length by omega)]
   have e2:(es.set o v).drop (o+1+fs.length)=es.drop (o+(fs.length+1)):=by rw[List.drop_set,if_pos (by omega)];congr 1;omega
   rw[e1,e2,List.set_set] at h3;show Frm S W (setL (w.setCell ⟨X,o,none⟩ v) X (o+1) fs) _ ts;rw[List.length_cons];simpa using h3
 have h1:=aux fs w bs 0 es h hj (by omega);rw[List.take_zero,List.nil_append,Nat.zero_add,←hl,List.drop_length,List.append_nil] at h1;exact h1
theorem Frm.tree (h:Frm S W w bs ts) (j:Nat) {T:zOU} (hj:ts[j]? = some T):T.p (LoW W.heap.size w) w.heap.size :=
 T.mono (h.tr T (List.mem_of_getElem? hj)) (Nat.le_refl _) fun a u _ hc=>by
  obtain⟨h1,_,h3⟩:=z17 hc
  rw[z8K h1];exact h3
theorem Frm.wrap {Y:Nat} (h:Frm S W w ((Y,t,es)::bs) ts) (T:zOU) (ht:∀M:World,M.heap[Y]? = some (.cells es.toArray t (0,0))→Y<w.heap.size→(∀T'∈ts,T'.p M w.heap.size)→T.p M w.heap.size):Frm S W w bs (T::ts):=by
 have hY:=h.blk _ (List.mem_cons_self ..);have hYo:=h.old _ (List.mem_cons_self ..);simp only at hY hYo;have hd:=h.dis;rw[List.map_cons,List.pairwise_cons] at hd;have hkeep:∀T'∈ts,T'.p (MkW W.heap.size (bs.map (fun b=>b.1)) w) w.heap.size:=fun T' hT=>T'.mono (h.tr T' hT) (Nat.le_refl _) fun a u _ hc=>by obtain⟨h1,h2,h3⟩:=z17 hc;rw[zrQ h1 (fun hm=>h2 (by rw[List.map_cons];exact List.mem_cons_of_mem _ hm))];exact h3
 refine⟨h.kp,fun b hb=>h.old b (List.mem_cons_of_mem _ hb),h.sub,fun b hb=>h.blk b (List.mem_cons_of_mem _ hb),hd.2,fun T' hT=>?_⟩;rcases List.mem_cons.1 hT with rfl | hT
 · refine ht _ ?_ (zh hY) hkeep;rw[z0S hYo (fun hm=>hd.1 _ hm rfl)];exact hY
 exact hkeep T' hT
theorem Frm.less (h:Frm S W w bs ts) {bs':List (Nat×TypeId×List Value)} {ts':List zOU} (hb:bs'.Sublist bs) (ht:∀T∈ts',T∈ts):Frm S W w bs' ts' :=
 ⟨h.kp,fun b hm=>h.old b (hb.subset hm),h.sub,fun b hm=>h.blk b (hb.subset hm),h.dis.sublist (hb.map _),fun T hT=>T.mono (h.tr T (ht T hT)) (Nat.le_refl _) fun a u _ hc=>by
  obtain⟨h1,h2,h3⟩:=z17 hc
  rw[zrQ h1 (fun hm=>h2 ((hb.map (fun b=>b.1)).subset hm))];exact h3⟩
theorem Frm.put (h:Frm S W w bs ts) (hq:S q) (k:Nat) (v:Value):Frm S W (w.setCell ⟨q,k,none⟩ v) bs ts :=
 h.call ((Kp.refl S w).set v (Or.inl hq))
end
end
end Go.Proofs.YtfibdoehmndinaaGreatDoor
namespace Go.Proofs.YtfibdoehmndinaaGreatDoor
open Go Go.RowKit
set_option linter.unusedVariables false
theorem bw {S:Nat→Prop} {W w:World} {o:Obj} {bs:List (Nat×TypeId×List Value)} {ts:List zOU} (h:Jd (Frm S W (w.alloc o) bs ts)):Below w.heap.size w (w.alloc o):=bnew w o
end Go.Proofs.YtfibdoehmndinaaGreatDoor
namespace Go.Proofs.YtfibdoehmndinaaGreatDoor
open Go.RowKit
set_option maxRecDepth 100000
set_option linter.unusedVariables false
section
variable {T:Type} {E:Enc T} {X:Nat} {es:List Value} {q:Nat} {ty:TypeId}
section
variable {S:Nat→Prop} {W w w':World} {bs:List (Nat×TypeId×List Value)} {ts:List zOU}
theorem Frm.addT (h:Frm S W w bs ts) (T:zOU) (ht:∀(M:World) (B:Nat),(∀T'∈ts,T'.p M B)→T.p M B):Frm S W w bs (T::ts) :=
 ⟨h.kp,h.old,h.sub,h.blk,h.dis,fun T' hT=>by
  rcases List.mem_cons.1 hT with rfl | hT
  · exact ht _ _ h.tr
  · exact h.tr T' hT⟩
theorem zYT (w:World) (g:Nat) (cs:Array Value):(w.setRow g cs).heap.size=w.heap.size:=by simp[World.setRow]
theorem Frm.row {t:TypeId} (h:Frm S W w ((X,t,es)::bs) ts) (cs:List Value):Frm S W (w.setRow X cs.toArray) ((X,t,cs)::bs) ts:=by
 have hX:=h.old _ (List.mem_cons_self ..);simp only at hX;have hd:=h.dis;rw[List.map_cons,List.pairwise_cons] at hd;refine⟨⟨h.kp.os,h.kp.tape,h.kp.output,by rw[zYT];exact h.kp.siz,fun p x hp hx=>?_⟩,fun b hb=>?_,h.sub,fun b hb=>?_,h.dis,fun T hT=>?_⟩
 · have:=zh hx;rw[setRow_other _ _ _ _ (by omega)];exact h.kp.blk p x hp hx
 · rcases List.mem_cons.1 hb with rfl | hb
   · exact hX
   exact h.old b (List.mem_cons_of_mem _ hb)
 · rcases List.mem_cons.1 hb with rfl | hb
   · exact setRow_heap _ _ _ _ _ _ (h.blk _ (List.mem_cons_self ..))
   rw[setRow_other _ _ _ _ (fun e=>hd.1 b.1 (List.mem_map.2 ⟨b,hb,rfl⟩) e.symm)];exact h.blk b (List.mem_cons_of_mem _ hb)
 refine T.mono (h.tr T hT) (by rw[zYT];exact Nat.le_refl _) fun a u _ hc=>?_;obtain⟨h1,h2,h3⟩:=z17 hc;show (MkW W.heap.size (((X,t,es)::bs).map (fun b=>b.1)) _).cell? a=_;rw[zrQ h1 h2,World.cell?_of_block (setRow_other _ _ _ _ (fun e=>h2 (by rw[e];exact List.mem_map.2 ⟨_,List.mem_cons_self ..,rfl⟩)))];exact h3
theorem Frm.swap {a b:Nat×TypeId×List Value} (h:Frm S W w (a::b::bs) ts):Frm S W w (b::a::bs) ts:=by
 have hm:∀x,x∈b::a::bs→x∈a::b::bs:=fun x hx=>by
  rcases List.mem_cons.1 hx with rfl | hx
  · simp
  rcases List.mem_cons.1 hx with rfl | hx
  · simp
  simp[hx]
 refine⟨h.kp,fun x hx=>h.old x (hm x hx),h.sub,fun x hx=>h.blk x (hm x hx),?_,fun T hT=>T.mono (h.tr T hT) (Nat.le_refl _) fun p u _ hc=>?_⟩
 · have:=h.dis;simp only[List.map_cons,List.pairwise_cons,List.mem_cons] at this ⊢;refine⟨fun x hx=>?_,fun x hx=>this.1 x (Or.inr hx),this.2.2⟩;rcases hx with rfl | hx
   · exact (this.1 b.1 (Or.inl rfl)).symm
   exact this.2.1 x hx
 obtain⟨k1,k2,k3⟩:=z17 hc;rw[zrQ k1 (fun h9=>k2 (by obtain⟨x,hx,e⟩:=List.mem_map.1 h9;exact List.mem_map.2 ⟨x,hm x hx,e⟩))]
 exact k3
end
def elT {T:Type} {E:Enc T} (hE:zOH E) (l:List T) (cs:List (List Value)):zOU :=
 ⟨fun w B=>cs.length=l.length∧(∀es∈cs,es.length=E.size)∧∀(k:Nat) (x:T),l[k]? = some x→∃es,cs[k]? = some es∧E.rep w B es x,fun h hB hk=>⟨h.1,h.2.1,fun k x hx=>by
  obtain⟨es,h1,h2⟩:=h.2.2 k x hx
  exact⟨es,h1,hE h2 hB hk⟩⟩⟩
theorem zkD (hE:zOH E) (M:World) (B:Nat):(elT hE [] []).p M B:=⟨rfl,by simp,by simp⟩
theorem zxF {hE:zOH E} {l:List T} {cs:List (List Value)} {M:World} {B:Nat} (h:(elT hE l cs).p M B) {x:T} (hx:E.rep M B es x):(elT hE (l++[x]) (cs++[es])).p M B:=by
 obtain⟨h1,h2,h3⟩:=h;refine⟨by simp[h1],fun e he=>?_,fun k y hk=>?_⟩
 · rcases List.mem_append.1 he with h | h
   · exact h2 e h
   rw[List.mem_singleton.1 h];exact E.len hx
 by_cases hlt:k<l.length
 · rw[List.getElem?_append_left hlt] at hk;obtain⟨e,g1,g2⟩:=h3 k y hk;exact⟨e,by rw[List.getElem?_append_left (by rw[h1];exact hlt)];exact g1,g2⟩
 have hk2:=(List.getElem?_eq_some_iff.1 hk).1;rw[List.length_append,List.length_singleton] at hk2;obtain rfl:k=l.length:=by omega
 rw[List.getElem?_append_right (Nat.le_refl _),Nat.sub_self] at hk;obtain rfl:x=y:=by simpa using hk
 exact⟨es,by rw[List.getElem?_append_right (by omega),h1,Nat.sub_self];rfl,hx⟩
theorem zZX (n:Nat):∀cs:List (List Value),(∀es∈cs,es.length=n)→cs.flatten.length=cs.length*n
 | [],_=>by simp
 | c::cs,h=>by rw[List.flatten_cons,List.length_append,h c (by simp),zZX n cs (fun e he=>h e (by simp[he])),List.length_cons,Nat.succ_mul];omega
def RowF {T:Type} {E:Enc T} (hE:zOH E) (S:Nat→Prop) (W w:World) (t:TypeId) (v:Value) (l:List T) (bs:List (Nat×TypeId×List Value)) (ts:List zOU):Prop :=
 (v=.slice none 0 0∧l=[]∧Frm S W w bs ts) ∨
 ∃g cap cells cs,v=.slice (some ⟨g,0,none⟩) l.length cap∧l.length≤cap∧cells.length=cap*E.size∧cells.take (l.length*E.size)=cs.flatten∧Frm S W w ((g,t,cells)::bs) (elT hE l cs::ts)
section
variable {T:Type} {E:Enc T} {hE:zOH E} {S:Nat→Prop} {W w w':World} {t:TypeId} {v:Value} {l:List T} {bs:List (Nat×TypeId×List Value)} {ts:List zOU}
theorem RowF.nil_ (h:Frm S W w bs ts):RowF hE S W w t (.slice none 0 0) [] bs ts:=Or.inl ⟨rfl,rfl,h⟩
theorem RowF.len (h:RowF hE S W w t v l bs ts):∃A c,v=.slice A l.length c:=by
 rcases h with⟨rfl,rfl,_⟩ | ⟨g,cap,cells,cs,rfl,_⟩
 · exact⟨none,0,rfl⟩
 exact⟨_,_,rfl⟩
theorem RowF.frm (h:RowF hE S W w t v l bs ts):Frm S W w bs ts:=by
 rcases h with⟨_,_,h⟩ | ⟨g,cap,cells,cs,_,_,_,_,h⟩
 · exact h
 exact h.less (List.sublist_cons_self ..) (fun T hT=>List.mem_cons_of_mem _ hT)
theorem RowF.call (h:RowF hE S W w t v l bs ts) (k:Kp S w w'):RowF hE S W w' t v l bs ts:=by
 rcases h with⟨h1,h2,h⟩ | ⟨g,cap,cells,cs,h1,h2,h3,h4,h⟩
 · exact Or.inl ⟨h1,h2,h.call k⟩
 exact Or.inr ⟨g,cap,cells,cs,h1,h2,h3,h4,h.call k⟩
theorem RowF.below (h:RowF hE S W w t v l bs ts) (hb:Below w.heap.size w w'):RowF hE S W w' t v l bs ts:=h.call (Kp.of_below hb)
theorem RowF.callT (h:RowF hE S W w t v l bs ts) (k:Kp S w w') (T':zOU) (ht:T'.p (LoW w.heap.size w') w'.heap.size):RowF hE S W w' t v l bs (T'::ts):=by
 rcases h with⟨h1,h2,h⟩ | ⟨g,cap,cells,cs,h1,h2,h3,h4,h⟩
 · exact Or.inl ⟨h1,h2,h.callT k T' ht⟩
 exact Or.inr ⟨g,cap,cells,cs,h1,h2,h3,h4,(h.callT k T' ht).less (List.Sublist.refl _) (fun X hX=>by
  rcases List.mem_cons.1 hX with rfl | hX
  · simp
  rcases List.mem_cons.1 hX with rfl | hX
  · simp
  simp[hX])⟩
theorem RowF.set (h:RowF hE S W w t v l bs ts) (j:Nat) (hj:bs[j]? = some (X,ty,es)) (k:Nat) (u:Value):RowF hE S W (w.setCell ⟨X,k,none⟩ u) t v l (bs.set j (X,ty,es.set k u)) ts:=by
 rcases h with⟨h1,h2,h⟩ | ⟨g,cap,cells,cs,h1,h2,h3,h4,h⟩
 · exact Or.inl ⟨h1,h2,h.set j hj k u⟩
 exact Or.inr ⟨g,cap,cells,cs,h1,h2,h3,h4,h.set (j+1) (by simpa using hj) k u⟩
theorem RowF.put (h:RowF hE S W w t v l bs ts) (hq:S q) (k:Nat) (u:Value):RowF hE S W (w.setCell ⟨q,k,none⟩ u) t v l bs ts:=by
 rcases h with⟨h1,h2,h⟩ | ⟨g,cap,cells,cs,h1,h2,h3,h4,h⟩
 · exact Or.inl ⟨h1,h2,h.put hq k u⟩
 exact Or.inr ⟨g,cap,cells,cs,h1,h2,h3,h4,h.put hq k u⟩
theorem RowF.less (h:RowF hE S W w t v l bs ts) {ts':List zOU} (ht:∀X∈ts',X∈ts):RowF hE S W w t v l bs ts':=by
 rcases h with⟨h1,h2,h⟩ | ⟨g,cap,cells,cs,h1,h2,h3,h4,h⟩
 · exact Or.inl ⟨h1,h2,h.less (List.Sublist.refl _) ht⟩
 exact Or.inr ⟨g,cap,cells,cs,h1,h2,h3,h4,h.less (List.Sublist.refl _) (fun X hX=>by
  rcases List.mem_cons.1 hX with rfl | hX
  · simp
  simp[ht X hX])⟩
theorem RowF.kp (h:RowF hE S W w t v l bs ts):Kp S W w:=h.frm.kp
theorem RowF.at_ (h:RowF hE S W w t v l bs ts) (j:Nat) (hj:bs[j]? = some (X,ty,es)):w.heap[X]? = some (.cells es.toArray ty (0,0)):=h.frm.at_ j hj
theorem RowF.far (h:RowF hE S W w t v l bs ts) (j:Nat) (hj:bs[j]? = some (X,ty,es)) (hq:S q):q<X:=h.frm.far j hj hq
theorem RowF.drew (h:RowF hE S W w t v l bs ts):RowF hE S W w.drew t v l bs ts:=h.below (bdr (Below.refl _ _))
theorem RowF.sub0 (h:RowF hE S W w t v l bs ts) (hq:S q):q<W.heap.size:=h.frm.sub q hq
theorem RowF.own (h:RowF hE S W w t v l bs ts):∀g,v.ownBlock=some g→W.heap.size≤g:=fun g hg=>by
 rcases h with⟨rfl,_,_⟩ | ⟨g',cap,cells,cs,rfl,_,_,_,h⟩
 · cases hg
 · have:=h.old _ (List.mem_cons_self ..)
   injection hg with hg
   subst hg
   exact this
theorem RowF.alloc (h:RowF hE S W w t v l bs ts) (ty:TypeId) (es:List Value):RowF hE S W (w.alloc (.cells es.toArray ty)) t v l ((w.heap.size,ty,es)::bs) ts:=by
 rcases h with⟨h1,h2,h⟩ | ⟨g,cap,cells,cs,h1,h2,h3,h4,h⟩
 · exact Or.inl ⟨h1,h2,h.alloc ty es⟩
 refine Or.inr ⟨g,cap,cells,cs,h1,h2,h3,h4,?_⟩;exact (h.alloc ty es).swap
theorem RowF.app (TS:TypeId) (z:Value) (sz by_:Nat) (h:RowF hE S W w t v l bs ts) (hsz:E.size=sz) (hs:Tryz.prog.underlying TS=some (.slice t)) (hi:(Tryz.prog.info? t).map (fun i=>(i.zero,i.size,i.bytes))=some (some z,sz,by_)) (hzs:z.cells.size=sz) (h0:0<sz) (hby:by_≤1000) (hn:l.length≤2000000)
  {es:List Value} {x:T} (hx:∀(M:World) (B:Nat),(∀X∈ts,X.p M B)→E.rep M B es x) (hlen:es.length=sz) (h1:∀u∈es,u.oneCell'=true) :
  ∃v' w',(Builtin.append_ #[TS,TS] TS #[v,.slice (some ⟨w.heap.size,0,none⟩) 1 1]).run Tryz.prog (w.alloc (.cells es.toArray t))=.ok v' w'∧RowF hE S W w' t v' (l++[x]) bs ts∧(w.alloc (.cells es.toArray t)).grownBy w' v.ownBlock:=by
 subst hsz;obtain⟨i0,hi,hz0,hz1,hz2⟩:=zQk hi;have hnews:∀j u,es[j]? = some u→(w.alloc (.cells es.toArray t)).cell? ((⟨w.heap.size,0,none⟩:Addr).add j)=some u:=by have:=World.news_of_block (heap_alloc_new w (.cells es.toArray t));simpa using this
 have hby2:(l.length+1)*i0.bytes≤140737488355328:=by
  rw[hz2];have:(l.length+1)*by_≤(l.length+1)*1000:=Nat.mul_le_mul_left _ hby
  omega
 rcases h with⟨rfl,rfl,h⟩ | ⟨g,cap,cells,cs,rfl,hc1,hc2,hc3,h⟩
 · have hr:=run_append_nil (P:=Tryz.prog) (w.alloc (.cells es.toArray t)) TS TS t i0 z hs hi hz0 ⟨w.heap.size,0,none⟩ 1 1 es (by rw[hz1];omega) hnews (by decide) (by decide) (by have:=hby2;simp only[List.length_nil,Nat.zero_add,Nat.one_mul] at this ⊢;omega);have hge:=grownCap_ge (w.alloc (.cells es.toArray t)) 1 0 t;generalize grownCap (w.alloc _) 1 0 t=cp at *;have hfr:=((h.alloc t es).drew.alloc t (es++(Builtin.zeroCells z.cells (cp-1)).toList)).addT (elT hE [x] [es]) (fun M B hts=>zxF (zkD hE M B) (hx M B hts));have e:(es++(Builtin.zeroCells z.cells (cp-1)).toList).toArray=es.toArray++Builtin.zeroCells z.cells (cp-1):=by simp
   rw[e] at hfr;refine⟨_,_,hr,Or.inr ⟨_,cp,_,[es],rfl,hge,?_,?_,hfr.less (List.Sublist.cons_cons _ (List.sublist_cons_self ..)) (fun X hX=>by simpa using hX)⟩,⟨rfl,rfl,rfl,by simp,fun k hk _=>(bnew (w.alloc (.cells es.toArray t)).drew _).block k hk⟩⟩
   · simp only[List.length_append,Array.length_toList,size_zeroCells,hlen,hzs];have:E.size+(cp-1)*E.size=(1+(cp-1))*E.size:=by rw[Nat.add_mul,Nat.one_mul]
     rw[this,show 1+(cp-1)=cp by omega]
   have:([]++[x]).length*E.size=es.length:=by rw[hlen];simp
   rw[this,List.take_left];simp
 have hcs:=(h.tr (elT hE l cs) (List.mem_cons_self ..)).1;have hcz:=(h.tr (elT hE l cs) (List.mem_cons_self ..)).2.1;have hfl:=zZX E.size cs hcz;rw[hcs] at hfl;have hg:=h.blk _ (List.mem_cons_self ..);simp only at hg;have hga:=za3 hg (.cells es.toArray t);have hcells:(l++[x]).length*E.size=l.length*E.size+es.length:=by rw[List.length_append,List.length_singleton,Nat.add_mul,Nat.one_mul,hlen]
 have hTa:∀(M:World) (B:Nat),(∀T'∈elT hE l cs::ts,T'.p M B)→(elT hE (l++[x]) (cs++[es])).p M B:=fun M B hts=>zxF (hts _ (List.mem_cons_self ..)) (hx M B (fun X hX=>hts X (List.mem_cons_of_mem _ hX)));by_cases hroom:l.length+1≤cap
 · have hfit:l.length*E.size+es.length≤cells.length:=by rw[hc2,←hcells,List.length_append,List.length_singleton];exact Nat.mul_le_mul_right _ hroom
   have hr:=run_append_room (P:=Tryz.prog) (w.alloc (.cells es.toArray t)) TS TS t i0 hs hi g l.length cap cells.toArray hga ⟨w.heap.size,0,none⟩ 1 1 es (by rw[hz1];omega) hnews h1 hroom (by rw[hz1];simpa using hfit);rw[hz1] at hr;have hfr:=((((h.alloc t es).less (bs':=(g,t,cells)::bs) (List.sublist_cons_self ..) (fun X hX=>hX)).row (cells.take (l.length*E.size)++es++cells.drop (l.length*E.size+es.length)))).addT (elT hE (l++[x]) (cs++[es])) hTa
   refine⟨_,_,hr,Or.inr ⟨g,cap,_,cs++[es],by simp,by simpa using hroom,?_,?_,hfr.less (List.Sublist.refl _) (fun X hX=>by
    rcases List.mem_cons.1 hX with rfl | hX
    · simp
    simp[hX])⟩,⟨rfl,rfl,rfl,by rw[zYT];exact Nat.le_refl _,fun k _ hne=>setRow_other _ _ _ _ (fun e=>hne (by rw[e];rfl))⟩⟩
   · simp only[List.length_append,List.length_take,List.length_drop];omega
   have hlt:(cells.take (l.length*E.size)).length=l.length*E.size:=by rw[List.length_take];omega
   rw[hcells,List.flatten_append,←hc3,List.append_assoc,List.take_append,hlt,Nat.add_sub_cancel_left,List.take_append_of_le_length (Nat.le_refl _),List.take_length,List.take_of_length_le (by rw[hlt];omega)];simp
 have hcl:cap=l.length:=by omega
 subst hcl;rw[←hc2,List.take_length] at hc3;have hr:=run_append_grow (P:=Tryz.prog) (w.alloc (.cells es.toArray t)) TS TS t i0 z hs hi hz0 ⟨g,0,none⟩ l.length l.length cells (by rw[hz1];exact hc2) (by have:=World.news_of_block hga;simpa using this) ⟨w.heap.size,0,none⟩ 1 1 es (by rw[hz1];omega) hnews (by omega) (by omega) (growslice_fits (by omega) hby2);have hge:=grownCap_ge (w.alloc (.cells es.toArray t)) (l.length+1) l.length t;generalize grownCap (w.alloc _) (l.length+1) l.length t=cp at *;have hfr:=((h.alloc t es).drew.alloc t (cells++es++(Builtin.zeroCells z.cells (cp-(l.length+1))).toList)).addT (elT hE (l++[x]) (cs++[es])) hTa;have e:(cells++es++(Builtin.zeroCells z.cells (cp-(l.length+1))).toList).toArray=cells.toArray++es.toArray++Builtin.zeroCells z.cells (cp-(l.length+1)):=by simp
 rw[e] at hfr
 refine⟨_,_,hr,Or.inr ⟨_,cp,_,cs++[es],by simp,by simpa using hge,?_,?_,hfr.less (List.Sublist.cons_cons _ ((List.sublist_cons_self ..).trans (List.sublist_cons_self ..))) (fun X hX=>by
  rcases List.mem_cons.1 hX with rfl | hX
  · simp
  simp[hX])⟩,⟨rfl,rfl,rfl,by simp,fun k hk _=>(bnew (w.alloc (.cells es.toArray t)).drew _).block k hk⟩⟩
 · simp only[List.length_append,Array.length_toList,size_zeroCells,hlen,hzs,hc2];have:l.length*E.size+E.size+(cp-(l.length+1))*E.size=(l.length+1+(cp-(l.length+1)))*E.size:=by rw[Nat.add_mul,Nat.add_mul,Nat.one_mul]
   rw[this,show l.length+1+(cp-(l.length+1))=cp by omega]
 rw[hcells,List.flatten_append,←hc3,←hc2,←List.length_append,List.take_left];simp
theorem RowF.done (h:RowF hE S W w t v l bs ts):Frm S W w bs (slT hE v l::ts):=by
 rcases h with⟨rfl,rfl,h⟩ | ⟨g,cap,cells,cs,rfl,hc1,hc2,hc3,h⟩
 · exact h.addT _ (fun M B _=>zj.nil_ _ _)
 have h2:=h.wrap (slT hE (.slice (some ⟨g,0,none⟩) l.length cap) l) (fun M hb hg hts=>by
  obtain⟨k1,k2,k3⟩:=hts _ (List.mem_cons_self ..);refine⟨_,cap,rfl,hc1,fun k x hx=>?_⟩;obtain⟨es,e1,e2⟩:=k3 k x hx;refine⟨g,0,es,rfl,hg,e2,fun j u hu=>?_⟩;have hkl:=(List.getElem?_eq_some_iff.1 hx).1;have hj:j<E.size:=by rw[←E.len e2];exact (List.getElem?_eq_some_iff.1 hu).1
  have hlt:k*E.size+j<l.length*E.size:=by have:(k+1)*E.size≤l.length*E.size:=Nat.mul_le_mul_right _ hkl;rw[Nat.succ_mul] at this;omega
  rw[Nat.zero_add,(zz hb (k*E.size+j)).1,List.getElem?_toArray,←List.getElem?_take_of_lt hlt,hc3];exact zew _ cs k2 k es e1 j u hu)
 exact h2.less (List.Sublist.refl _) (fun X hX=>by
  rcases List.mem_cons.1 hX with rfl | hX
  · simp
  simp[hX])
end
end
set_option maxHeartbeats 400000
section
variable {p:Prop}
theorem uBq (h:p:=by
 go_enter Tryz.func18,Tryz.ntmps18;go_wp2_with fail;all_goals first | (exfalso;omega) | (go_ret;refine⟨?_,bnew w _⟩;first | rfl | (refine zm3 ?_;omega))):p:=h
end
theorem zii (te tl tb:Int) (w:World):Calls Tryz.prog 18 #[.agg #[te,tl,tb]] w fun e w'=>e=.returned (.int .i64 (z0s ⟨te,tl,tb⟩))∧Below w.heap.size w w':=by
 unfold z0s;simp only;by_cases h:tl≤1
 · rw[show max tl 1=1 by omega];exact uBq
 have h2:1<tl:=by omega
 rw[show max tl 1=tl by omega];exact uBq
theorem z9g (te tl tb:Int) (w:World):Calls Tryz.prog 19 #[.agg #[te,tl,tb]] w fun e w'=>e=.returned (.int .i64 (zcI ⟨te,tl,tb⟩))∧Below w.heap.size w w':=by
 unfold zcI;by_cases h:te=2
 · subst h;rw[if_pos rfl];go_enter Tryz.func19,Tryz.ntmps19;go_wp2_with fail;go_ret;exact⟨rfl,bnew w _⟩
 rw[if_neg (show ¬(⟨te,tl,tb⟩:TTy).elem=2 from h)];have q2:(te==2)=false:=nB h;go_enter Tryz.func19,Tryz.ntmps19;go_wp2_with fail;go_ret;exact⟨rfl,bnew w _⟩
theorem zqA (te tl tb:Int) (h0:0≤tl) (h1:tl≤4294967295) (w:World):Calls Tryz.prog 43 #[.agg #[te,tl,tb]] w fun e w'=>e=.returned (.int .i64 (zZ ⟨te,tl,tb⟩))∧Below w.heap.size w w':=by
 have hx:=heap_alloc_new w (.cells #[te,tl,tb] 41);have HX:=hI hx;have HB:=hI (bnew w (.cells #[te,tl,tb] 41));have hm:z0s ⟨te,tl,tb⟩=max tl 1:=rfl;have he:zcI ⟨te,tl,tb⟩=1∨zcI ⟨te,tl,tb⟩=4:=by unfold zcI;by_cases h:(⟨te,tl,tb⟩:TTy).elem=2;exact Or.inl (if_pos h);exact Or.inr (if_neg h)
 have hr:zZ ⟨te,tl,tb⟩=(z0s ⟨te,tl,tb⟩*zcI ⟨te,tl,tb⟩+3) / 4*4:=rfl;rw[hr];have HM:=hI (zii te tl tb);have HE:=hI (z9g te tl tb);generalize z0s ⟨te,tl,tb⟩=mm at *;generalize zcI ⟨te,tl,tb⟩=ee at *;obtain⟨p,hp⟩:∃p,mm*ee=p:=⟨_,rfl⟩
 have hp0:0≤p∧p≤17179869180:=by rcases he with rfl | rfl <;> omega
 have v:IntKind.i64.wrap (mm*ee)=p:=by rw[hp,zF];unfold wrap64;omega
 have v1:IntKind.i64.wrap (p+4)=p+4:=by rw[zF];unfold wrap64;omega
 have v2:IntKind.i64.wrap (p+4-1)=p+3:=by rw[zF];unfold wrap64;omega
 have v3:(p+3).tdiv 4=(p+3) / 4:=Int.tdiv_eq_ediv_of_nonneg (by omega);have v4:IntKind.i64.wrap ((p+3) / 4)=(p+3) / 4:=by rw[zF];unfold wrap64;omega
 have v5:IntKind.i64.wrap ((p+3) / 4*4)=(p+3) / 4*4:=by rw[zF];unfold wrap64;omega
 rw[hp];clear hx hm he hr hp hp0 h0 h1;go_enter Tryz.func43,Tryz.ntmps43;go_upto_region 1 with (fail);have hS0:(fun w'=>w'.cell? ⟨w.heap.size,0,none⟩=some (.int .i64 te)∧w'.cell? ⟨w.heap.size,1,none⟩=some (.int .i64 tl)∧w'.cell? ⟨w.heap.size,2,none⟩=some (.int .i64 tb)) (w.alloc (.cells #[te,tl,tb] 41)).drew:=⟨(zz HX.o 0).1,(zz HX.o 1).1,(zz HX.o 2).1⟩
 have HXD:Jd ((w.alloc (.cells #[te,tl,tb] 41)).drew.heap[w.heap.size]? = _):=hI HX.o;have HBD:Jd (Below w.heap.size w (w.alloc (.cells #[te,tl,tb] 41)).drew):=hI (bdr HB.o);generalize (w.alloc _)=wa at *;generalize hX:w.heap.size=X at *;have HXE:=hI hX;clear hX;refine wL (fun w'=>w'.cell? ⟨X,0,none⟩=some (.int .i64 te)∧w'.cell? ⟨X,1,none⟩=some (.int .i64 tl)∧w'.cell? ⟨X,2,none⟩=some (.int .i64 tb)) 99 ?_;generalize wa.drew=wd at *;refine tg 0 3 (.agg #[te,tl,tb]) hS0 ?_;refine tg 2 5 (.agg #[te,tl,tb]) hS0 ?_;try simp only[Act.put,pA,pB,pC]
 refine wone 1 fun K hK=>?_;go_simp;refine (HM.o wd).mono ?_;rintro e wx ⟨rfl,hbx⟩;have HX1:=hI ((hbx.block X (zh HXD.o)).trans HXD.o);have HB1:=hI (HBD.o.trans (hbx.mono (Nat.le_of_lt (zh HXD.o))));refine hK.o _ _ (fun _=>⟨(zz HX1.o 0).1,(zz HX1.o 1).1,(zz HX1.o 2).1⟩) ?_;clear hK hbx;try simp only[Act.put,pA,pB,pC]
 refine wone 3 fun K hK=>?_;go_simp;refine (HE.o wx).mono ?_;rintro e wy ⟨rfl,hby⟩;have HX2:=hI ((hby.block X (zh HX1.o)).trans HX1.o);have HB2:=hI (HB1.o.trans (hby.mono (Nat.le_of_lt (zh HX1.o))));refine hK.o _ _ (fun _=>⟨(zz HX2.o 0).1,(zz HX2.o 1).1,(zz HX2.o 2).1⟩) ?_;clear hK hby
 try simp only[Act.put,pA,pB,pC]
 refine wone 4 fun K hK=>?_;go_simp;try simp only[v,v1,v2,v3,v4,v5]
 refine hK.o _ _ (fun _=>⟨(zz HX2.o 0).1,(zz HX2.o 1).1,(zz HX2.o 2).1⟩) ?_;clear hK;try simp only[Act.put,pA,pB,pC]
 refine wone 5 fun K hK=>?_;go_simp;try simp only[v,v1,v2,v3,v4,v5]
 refine hK.o _ _ (fun _=>⟨(zz HX2.o 0).1,(zz HX2.o 1).1,(zz HX2.o 2).1⟩) ?_;clear hK;try simp only[Act.put,pA,pB,pC]
 refine wone 6 fun K hK=>?_;go_simp;try simp only[v,v1,v2,v3,v4,v5]
 refine hK.o _ _ (fun _=>⟨(zz HX2.o 0).1,(zz HX2.o 1).1,(zz HX2.o 2).1⟩) ?_;clear hK;try simp only[Act.put,pA,pB,pC]
 refine wone 7 fun K hK=>?_;go_simp;try simp only[v,v1,v2,v3,v4,v5]
 refine hK.o _ _ (fun _=>⟨(zz HX2.o 0).1,(zz HX2.o 1).1,(zz HX2.o 2).1⟩) ?_;clear hK;try simp only[Act.put,pA,pB,pC]
 refine wone 8 fun K hK=>?_;go_simp;try simp only[v,v1,v2,v3,v4,v5]
 refine hK.o _ _ (fun _=>⟨(zz HX2.o 0).1,(zz HX2.o 1).1,(zz HX2.o 2).1⟩) ?_;clear hK;try simp only[Act.put,pA,pB,pC]
 refine wone 9 fun K hK=>?_;go_simp;try simp only[v,v1,v2,v3,v4,v5]
 refine hK.o _ _ (fun _=>⟨(zz HX2.o 0).1,(zz HX2.o 1).1,(zz HX2.o 2).1⟩) ?_;clear hK;try simp only[Act.put,pA,pB,pC]
 refine wD ?_ _;clear hS0;go_wp2_with fail;go_ret;exact⟨rfl,by rw[HXE.o];exact HB2.o⟩
section
variable {B B0:Nat} {F:ByteArray→Option TFu} {L:List ByteArray} {Nf:Nat} {W W' W2:World} {bs bs':List Nat} {env env':TEnv} {fb fr:Nat} {m m':TMem} {n nb nb':Nat}
theorem EvAt.stepI (h:EvAt W B B0 fr fb nb Nf n L F env bs m) (hn:nb'≠fr∧nb'≠fb∧nb'≠nb∧B0≤nb') (k:zNS W B0 nb' L bs m W' env' bs' m'):EvAt W' B B0 fr fb nb Nf n L F env bs' m':=by
 have hb:Below B0 W W':=k.kp.below h.le.2 (fun q hq=>by
  rcases hq with hq | hq
  · exact (h.mem.mem_le q hq).1
  rw[hq];exact hn.2.2.2)
 have hnot:∀q,nb'≠q→(∀g∈bs,g≠q)→∀x,W.heap[q]? = some x→W'.heap[q]? = some x:=fun q h8 hq x hx=>k.kp.blk q x (fun h9=>h9.elim (fun h9=>hq q h9 rfl) (fun h9=>h8 h9.symm)) hx;have hfr:=zh h.frm;have hfb:=h.fn.lt;refine⟨hnot fr hn.1 (fun g hg=>(h.far g hg).1) _ h.frm,h.nm.step (hnot nb hn.2.2.1 (fun g hg=>(h.far g hg).2.2)) k.pre k.shp,h.fn.step (hnot fb hn.2.1 (fun g hg=>(h.far g hg).2.1)) (hb.mono h.le.1),k.mem,fun g hg=>?_,⟨h.le.1,Nat.le_trans h.le.2 k.kp.siz⟩,⟨h.nf.1,h.nf.2.1,h.nf.2.2.1,Nat.lt_of_lt_of_le h.nf.2.2.2 k.kp.siz⟩,h.src,h.lim⟩;exact uFG
theorem EvAt.aliasS {W1:World} {b1:List Nat} {m1:TMem} (h:EvAt W B B0 fr fb nb Nf n L F env bs m) (k:EvOk W B0 bs m W1 b1 m1) {a:TCl} {g c:Nat} (hc:m1[c]? = some a) (hg:b1[c]? = some g)
  {x:ByteArray} (hr:W1.grownBy W' (some nb)) (hn:∀(bs':List Nat) (m':TMem) (c:Nat),Pre b1 bs'→Shp m1 m'→m'[c]? = some a→bs'[c]? = some g→NmAt W' nb L (zSy env x c) bs' m') :
  zNS W B0 nb L bs m W' (zSy env x c) b1 m1:=by
 have hblk:∀q y,q≠nb→W1.heap[q]? = some y→W'.heap[q]? = some y:=fun q y hq hy=>(hr.block q (zh hy) (fun e=>hq (by injection e))).trans hy
 have hnb:∀q∈b1,q≠nb:=fun q hq e=>by
  rcases k.new q hq with h1 | h1
  · exact (h.far q h1).2.2 e
  have:=h.nf.2.2.2;omega
 refine⟨k.pre,k.new,⟨k.mem.len,fun c y hc=>?_,k.mem.inj⟩,hn _ _ _ (Pre.refl _) (Shp.refl _) hc hg,k.shp,⟨hr.os.trans k.kp.os,hr.tape.trans k.kp.tape,hr.output.trans k.kp.output,Nat.le_trans k.kp.siz hr.size,fun q y hq hy=>?_⟩⟩
 · obtain⟨q,h1,h2,h3,h4⟩:=k.mem.at_ c y hc;exact⟨q,h1,h2,hblk q _ (hnb q (List.mem_of_getElem? h1)) h3,h4⟩
 exact hblk q y (fun e=>hq (Or.inr e)) (k.kp.blk q y (fun h9=>hq (Or.inl h9)) hy)
theorem EvAt.inner (h:EvAt W B B0 fr fb nb Nf n L F env bs m) (hb:Below W.heap.size W W2) {fr':Nat} (h1:W.heap.size≤nb') (h2:W.heap.size≤fr') (h3:nb'≠fr')
  (hm:MapV W2 nb' 0 (fun _=>none)) (hf:W2.heap[fr']? = some (.cells #[.map (some fb),.map (some nb')] 82 (0,0))):EvAt W2 B B0 fr' fb nb' Nf n L F zN bs m:=by
 have h4:=h.step (h.ok hb);have hfb:=h.fn.lt;have hmem:=h.mem.mem_le;have hlt:nb'<W2.heap.size:=by obtain⟨D,⟨es,clock,h5,_⟩,_⟩:=hm;exact zh h5
 refine⟨hf,⟨_,hm.tight L (fun x hx=>absurd rfl hx),fun x hx=>absurd rfl hx,fun x=>trivial⟩,h4.fn,h4.mem,fun g hg=>?_,h4.le,⟨by omega,h3,Nat.le_trans h.le.2 h1,hlt⟩,h.src,h.lim⟩;have:=hmem g hg;exact⟨by omega,(h.far g hg).2.1,by omega⟩
theorem zNS.out (hb:Below W.heap.size W W2) (h1:W.heap.size≤nb') (k:zNS W2 B0 nb' L bs m W' env' bs' m'):EvOk W B0 bs m W' bs' m' :=
 ⟨k.pre,fun g hg=>(k.new g hg).imp id (Nat.le_trans hb.size),k.mem,k.shp,(Kp.of_below hb).trans k.kp (fun q hq hs=>hs.elim id (fun h9=>by omega))⟩
end
set_option maxHeartbeats 1000000
section
variable {k:Nat}
section
variable {p:Prop}
theorem uTd (h:p:=by
 generalize W.alloc _=v1 at *;generalize W.heap.size=X at *;go_wp2_with fail;refine (HC.o).mono ?_;intro e v hpost;cases r
 case bad=>exact absurd rfl hbad
 case trap=>obtain⟨rfl,hb2⟩:=hpost;have HB2:=hI (HBLW.o v hb2);clear hb2 c7 x0 x1 x2 x3 x4;go_wp2_with fail;refine⟨rfl,?_⟩;rw[←HPO.o];exact⟨rfl,HB2.o⟩
 rename_i q;obtain⟨iv,m1⟩:=q;obtain⟨rfl,bs1,hok⟩:=hpost;have HOK2:=hI (HOK1.o.trans hok);clear hok c7 x0 x1 x2 x3 x4;simp only;go_wp2_with fail;rw[←HPO.o];exact⟨rfl,bs1,HEV.o.toS HOK2.o⟩):p:=h
end
theorem zqx (hw:zOI k):∀B B0 fr fb nb Nf n d d' L F env bs m kind pos most name te tl tb args body els has va vb ve W,kind=8→EvAt W B B0 fr fb nb Nf n L F env bs m→stSm (.mk kind pos most name ⟨te,tl,tb⟩ args body els has)→zj (zO d) W B va args→zj (zM d) W B vb body→zj (zM d) W B ve els→stIn L d' (.mk kind pos most name ⟨te,tl,tb⟩ args body els has)→z8H (k+1) F env m (.mk kind pos most name ⟨te,tl,tb⟩ args body els has)≠.bad →
  Calls Tryz.prog 47 #[.pointer (some ⟨fr,0,none⟩),.agg #[kind,pos,most,name,te,tl,tb,va,vb,ve,has]] W (zse W B0 nb L bs m (z8H (k+1) F env m (.mk kind pos most name ⟨te,tl,tb⟩ args body els has))):=by
 intro B B0 fr fb nb Nf n d d' L F env bs m kind pos most name te tl tb args body els has va vb ve W hk hev hsm hxa hxb hxe hin hbad;subst hk;obtain⟨hn1,hn2,hn3,hn4⟩:=hsm;simp only[TSt.name,TSt.args,TSt.body,TSt.els] at hn1 hn2 hn3 hn4;obtain⟨A,ca,rfl,_⟩:=hxa.shape;obtain⟨Ab,cb,rfl,_⟩:=hxb.shape;obtain⟨Ae,ce,rfl,_⟩:=hxe.shape;have hbX:=bnew W (.cells #[.int .i64 8,pos,most,name,te,tl,tb,.slice A args.length ca,.slice Ab body.length cb,.slice Ae els.length ce,has] 126);have HXX:=hI (heap_alloc_new W (.cells #[.int .i64 8,pos,most,name,te,tl,tb,.slice A args.length ca,.slice Ab body.length cb,.slice Ae els.length ce,has] 126));have HOK1:=hI (hev.ok hbX);have HEV1:=hI (hev.step (hev.ok hbX));have hmo:=hbX.mono (Nat.le_trans hev.le.1 hev.le.2);have HXa:=hI (hxa.below hmo (Nat.le_refl _));have HXb:=hI (hxb.below hmo (Nat.le_refl _));have HXe:=hI (hxe.below hmo (Nat.le_refl _));have HEV:=hI hev;have HNS:Jd (W.heap.size∉bs):=hI (fun h9=>by have:=(hev.mem.mem_le _ h9).2;omega);have HBLW:=hI (fun (v:World) (h:Below B0 (W.alloc (.cells #[.int .i64 8,pos,most,name,te,tl,tb,.slice A args.length ca,.slice Ab body.length cb,.slice Ae els.length ce,has] 126)) v)=>(hbX.mono hev.le.2).trans h);have HN1:=hI hn1;unfold z8H at hbad ⊢;rw[if_neg (by decide),if_neg (by decide),if_neg (by decide),if_neg (by decide),if_neg (by decide),if_neg (by decide),if_neg (by decide),if_pos rfl] at hbad ⊢;cases args with
 | nil=>exact absurd rfl hbad
 | cons x xs =>
  simp only at hbad ⊢;obtain⟨d1,b,off,vx,rfl,rfl,hb0,hsx,hxx,x0,x1,x2,x3,x4⟩:=zYA HXa.o 0 (by simp);simp only[List.getD_cons_zero,Nat.zero_mul,Nat.add_zero] at hsx hxx x0 x1 x2 x3 x4;obtain⟨Ax,cx,rfl,_⟩:=hxx.shape;have hbx:tVal k F env m x≠.bad:=fun e=>hbad (by rw[e];rfl);have HC:=hI (hw.val B B0 fr fb nb Nf n d1 L F env bs m x (.slice Ax x.args.length cx) _ HEV1.o hsx hxx hbx);unfold zem at HC;obtain⟨r,hr⟩:∃r,tVal k F env m x=r:=⟨_,rfl⟩
  rw[hr] at hbad HC ⊢;generalize hPO:zse W B0 nb L bs m (r.bind fun r=>.ok (r.1,env,r.2))=PO;have HPO:=hI hPO;have k1n:0<(x::xs).length:=by rw[List.length_cons];omega
  have k1:(0:Int)<(((x::xs).length:Nat):Int):=by rw[List.length_cons];omega
  generalize (x::xs).length=ln at *;clear hev hxa hxb hxe hin hbX hPO hr hw hn1 hn2 hn3 hn4 hsx hxx hbx hmo hb0;obtain⟨c7,_⟩:=zz HXX.o 7;go_enter Tryz.func47,Tryz.ntmps47;go_upto_region 30 with (fail);exact uTd
theorem zUN (hw:zOI k):∀B B0 fr fb nb Nf n d d' L F env bs m kind pos most name te tl tb args body els has va vb ve W,kind=7→EvAt W B B0 fr fb nb Nf n L F env bs m→stSm (.mk kind pos most name ⟨te,tl,tb⟩ args body els has)→zj (zO d) W B va args→zj (zM d) W B vb body→zj (zM d) W B ve els→stIn L d' (.mk kind pos most name ⟨te,tl,tb⟩ args body els has)→z8H (k+1) F env m (.mk kind pos most name ⟨te,tl,tb⟩ args body els has)≠.bad →
  Calls Tryz.prog 47 #[.pointer (some ⟨fr,0,none⟩),.agg #[kind,pos,most,name,te,tl,tb,va,vb,ve,has]] W (zse W B0 nb L bs m (z8H (k+1) F env m (.mk kind pos most name ⟨te,tl,tb⟩ args body els has))):=by
 intro B B0 fr fb nb Nf n d d' L F env bs m kind pos most name te tl tb args body els has va vb ve W hk hev hsm hxa hxb hxe hin hbad;subst hk;obtain⟨hn1,hn2,hn3,hn4⟩:=hsm;simp only[TSt.name,TSt.args,TSt.body,TSt.els] at hn1 hn2 hn3 hn4;obtain⟨A,ca,rfl,_⟩:=hxa.shape;obtain⟨Ab,cb,rfl,_⟩:=hxb.shape;obtain⟨Ae,ce,rfl,_⟩:=hxe.shape;have hbX:=bnew W (.cells #[.int .i64 7,pos,most,name,te,tl,tb,.slice A args.length ca,.slice Ab body.length cb,.slice Ae els.length ce,has] 126);have HXX:=hI (heap_alloc_new W (.cells #[.int .i64 7,pos,most,name,te,tl,tb,.slice A args.length ca,.slice Ab body.length cb,.slice Ae els.length ce,has] 126));have HOK1:=hI (hev.ok hbX);have HEV1:=hI (hev.step (hev.ok hbX));have hmo:=hbX.mono (Nat.le_trans hev.le.1 hev.le.2);have HXa:=hI (hxa.below hmo (Nat.le_refl _));have HXb:=hI (hxb.below hmo (Nat.le_refl _));have HXe:=hI (hxe.below hmo (Nat.le_refl _));have HEV:=hI hev;have HNS:Jd (W.heap.size∉bs):=hI (fun h9=>by have:=(hev.mem.mem_le _ h9).2;omega);have HBLW:=hI (fun (v:World) (h:Below B0 (W.alloc (.cells #[.int .i64 7,pos,most,name,te,tl,tb,.slice A args.length ca,.slice Ab body.length cb,.slice Ae els.length ce,has] 126)) v)=>(hbX.mono hev.le.2).trans h);have HN1:=hI hn1;unfold z8H at hbad ⊢;rw[if_neg (by decide),if_neg (by decide),if_neg (by decide),if_neg (by decide),if_neg (by decide),if_neg (by decide),if_pos rfl] at hbad ⊢;cases args with
 | nil=>exact absurd rfl hbad
 | cons x xs =>
  simp only at hbad ⊢;obtain⟨d1,b,off,vx,rfl,rfl,hb0,hsx,hxx,x0,x1,x2,x3,x4⟩:=zYA HXa.o 0 (by simp);simp only[List.getD_cons_zero,Nat.zero_mul,Nat.add_zero] at hsx hxx x0 x1 x2 x3 x4;obtain⟨Ax,cx,rfl,_⟩:=hxx.shape;have hbx:zQ3 k F env m x.name x.args≠.bad:=fun e=>hbad (by rw[e];rfl);have HC:=hI (hw.call B B0 fr fb nb Nf n d1 L F env bs m x (.slice Ax x.args.length cx) _ HEV1.o hsx hxx hbx);unfold zem at HC;obtain⟨r,hr⟩:∃r,zQ3 k F env m x.name x.args=r:=⟨_,rfl⟩
  rw[hr] at hbad HC ⊢;generalize hPO:zse W B0 nb L bs m (r.bind fun r=>.ok (0,env,r.2))=PO;have HPO:=hI hPO;have k1n:0<(x::xs).length:=by rw[List.length_cons];omega
  have k1:(0:Int)<(((x::xs).length:Nat):Int):=by rw[List.length_cons];omega
  generalize (x::xs).length=ln at *;clear hev hxa hxb hxe hin hbX hPO hr hw hn1 hn2 hn3 hn4 hsx hxx hbx hmo hb0;obtain⟨c7,_⟩:=zz HXX.o 7;go_enter Tryz.func47,Tryz.ntmps47;go_upto_region 27 with (fail);exact uTd
theorem zGk:∀B B0 fr fb nb Nf n d d' L F env bs m kind pos most name te tl tb args body els has va vb ve W,¬(1≤kind∧kind≤8)→EvAt W B B0 fr fb nb Nf n L F env bs m→stSm (.mk kind pos most name ⟨te,tl,tb⟩ args body els has)→zj (zO d) W B va args→zj (zM d) W B vb body→zj (zM d) W B ve els→stIn L d' (.mk kind pos most name ⟨te,tl,tb⟩ args body els has)→z8H (k+1) F env m (.mk kind pos most name ⟨te,tl,tb⟩ args body els has)≠.bad →
  Calls Tryz.prog 47 #[.pointer (some ⟨fr,0,none⟩),.agg #[kind,pos,most,name,te,tl,tb,va,vb,ve,has]] W (zse W B0 nb L bs m (z8H (k+1) F env m (.mk kind pos most name ⟨te,tl,tb⟩ args body els has))):=by
 intro B B0 fr fb nb Nf n d d' L F env bs m kind pos most name te tl tb args body els has va vb ve W hk hev hsm hxa hxb hxe hin hbad;obtain⟨hn1,hn2,hn3,hn4⟩:=hsm;simp only[TSt.name,TSt.args,TSt.body,TSt.els] at hn1 hn2 hn3 hn4;obtain⟨A,ca,rfl,_⟩:=hxa.shape;obtain⟨Ab,cb,rfl,_⟩:=hxb.shape;obtain⟨Ae,ce,rfl,_⟩:=hxe.shape;have hbX:=bnew W (.cells #[kind,pos,most,name,te,tl,tb,.slice A args.length ca,.slice Ab body.length cb,.slice Ae els.length ce,has] 126);have HXX:=hI (heap_alloc_new W (.cells #[kind,pos,most,name,te,tl,tb,.slice A args.length ca,.slice Ab body.length cb,.slice Ae els.length ce,has] 126));have HOK1:=hI (hev.ok hbX);have HEV1:=hI (hev.step (hev.ok hbX));have hmo:=hbX.mono (Nat.le_trans hev.le.1 hev.le.2);have HXa:=hI (hxa.below hmo (Nat.le_refl _));have HXb:=hI (hxb.below hmo (Nat.le_refl _));have HXe:=hI (hxe.below hmo (Nat.le_refl _));have HEV:=hI hev;have HNS:Jd (W.heap.size∉bs):=hI (fun h9=>by have:=(hev.mem.mem_le _ h9).2;omega);have HBLW:=hI (fun (w2:World) (h:Below B0 (W.alloc (.cells #[kind,pos,most,name,te,tl,tb,.slice A args.length ca,.slice Ab body.length cb,.slice Ae els.length ce,has] 126)) w2)=>(hbX.mono hev.le.2).trans h);have HN1:=hI hn1;unfold z8H at hbad ⊢;rw[if_neg (by omega),if_neg (by omega),if_neg (by omega),if_neg (by omega),if_neg (by omega),if_neg (by omega),if_neg (by omega),if_neg (by omega)] at hbad ⊢;have q1:(kind==1)=false:=nB (by omega);have q2:(kind==2)=false:=nB (by omega);have q3:(kind==3)=false:=nB (by omega);have q4:(kind==4)=false:=nB (by omega);have q5:(kind==5)=false:=nB (by omega);have q6:(kind==6)=false:=nB (by omega);have q7:(kind==7)=false:=nB (by omega);have q8:(kind==8)=false:=nB (by omega);generalize hPO:zse W B0 nb L bs m (.ok (0,env,m))=PO;have HPO:=hI hPO;clear hev hxa hxb hxe hin hbX hPO hn1 hn2 hn3 hn4 hmo hbad hk;go_enter Tryz.func47,Tryz.ntmps47;go_wp2_with fail;rw[←HPO.o];exact⟨rfl,bs,HEV.o.toS HOK1.o⟩
end
section
variable {p:Prop}
theorem uZc (h:p:=by
 rw[hr2] at HC2 hbd;have HRT:Jd (r=r2.bind fun q=>.ok ((0:Int),q.2)):=hI (by rw[←HR1.o,HIF.o,hr2]);have HBD:=hI hbd;clear hr2 hbd hn3 hn4;go_wp2_with fail;refine (HC2.o).mono ?_;intro e v3 hpost;cases r2
 case bad=>exact absurd rfl HBD.o
 case trap=>obtain⟨rfl,hb3⟩:=hpost;have HB3:=hI (HBLW.o v1 HB02.o |>.trans hb3);clear hb3 c8 c9;go_wp2_with fail;refine⟨rfl,?_⟩;rw[←HPO.o,HRT.o];exact⟨rfl,HB3.o⟩
 rename_i q2;obtain⟨v2,env2,m2⟩:=q2;obtain⟨rfl,bs2,hok2⟩:=hpost;have HOK3:=hI ((HEV.o.toS HOK2.o).trans hok2);clear hok2 c8 c9;simp only;go_wp2_with fail;rw[←HPO.o,HRT.o];exact⟨rfl,bs2,HOK3.o⟩):p:=h
end
theorem z7o {k:Nat} (hw:zOI k):∀B B0 fr fb nb Nf n d d' L F env bs m kind pos most name te tl tb args body els has va vb ve W,kind=5→EvAt W B B0 fr fb nb Nf n L F env bs m→stSm (.mk kind pos most name ⟨te,tl,tb⟩ args body els has)→zj (zO d) W B va args→zj (zM d) W B vb body→zj (zM d) W B ve els→stIn L d' (.mk kind pos most name ⟨te,tl,tb⟩ args body els has)→z8H (k+1) F env m (.mk kind pos most name ⟨te,tl,tb⟩ args body els has)≠.bad →
  Calls Tryz.prog 47 #[.pointer (some ⟨fr,0,none⟩),.agg #[kind,pos,most,name,te,tl,tb,va,vb,ve,has]] W (zse W B0 nb L bs m (z8H (k+1) F env m (.mk kind pos most name ⟨te,tl,tb⟩ args body els has))):=by
 intro B B0 fr fb nb Nf n d d' L F env bs m kind pos most name te tl tb args body els has va vb ve W hk hev hsm hxa hxb hxe hin hbad;subst hk;obtain⟨hn1,hn2,hn3,hn4⟩:=hsm;simp only[TSt.name,TSt.args,TSt.body,TSt.els] at hn1 hn2 hn3 hn4;obtain⟨A,ca,rfl,_⟩:=hxa.shape;obtain⟨Ab,cb,rfl,_⟩:=hxb.shape;obtain⟨Ae,ce,rfl,_⟩:=hxe.shape;have hbX:=bnew W (.cells #[.int .i64 5,pos,most,name,te,tl,tb,.slice A args.length ca,.slice Ab body.length cb,.slice Ae els.length ce,has] 126);have HXX:=hI (heap_alloc_new W (.cells #[.int .i64 5,pos,most,name,te,tl,tb,.slice A args.length ca,.slice Ab body.length cb,.slice Ae els.length ce,has] 126));have HOK1:=hI (hev.ok hbX);have HEV1:=hI (hev.step (hev.ok hbX));have hmo:=hbX.mono (Nat.le_trans hev.le.1 hev.le.2);have HXa:=hI (hxa.below hmo (Nat.le_refl _));have HXb:=hI (hxb.below hmo (Nat.le_refl _));have HXe:=hI (hxe.below hmo (Nat.le_refl _));have HEV:=hI hev;have HNS:Jd (W.heap.size∉bs):=hI (fun h9=>by have:=(hev.mem.mem_le _ h9).2;omega);have HBLW:=hI (fun (v1:World) (h:Below B0 (W.alloc (.cells #[.int .i64 5,pos,most,name,te,tl,tb,.slice A args.length ca,.slice Ab body.length cb,.slice Ae els.length ce,has] 126)) v1)=>(hbX.mono hev.le.2).trans h);have HN1:=hI hn1;unfold z8H at hbad ⊢;rw[if_neg (by decide),if_neg (by decide),if_neg (by decide),if_neg (by decide),if_pos rfl] at hbad ⊢;cases args with
 | nil=>exact absurd rfl hbad
 | cons x xs =>
  simp only at hbad ⊢;obtain⟨d1,b,off,vx,rfl,rfl,hb0,hsx,hxx,x0,x1,x2,x3,x4⟩:=zYA HXa.o 0 (by simp);simp only[List.getD_cons_zero,Nat.zero_mul,Nat.add_zero] at hsx hxx x0 x1 x2 x3 x4;obtain⟨Ax,cx,rfl,_⟩:=hxx.shape;have hbx:tVal k F env m x≠.bad:=fun e=>hbad (by rw[e];rfl);have HC:=hI (hw.val B B0 fr fb nb Nf n d1 L F env bs m x (.slice Ax x.args.length cx) _ HEV1.o hsx hxx hbx);unfold zem at HC
  have HIB:Jd ((body.length≤65536→(∀s∈body,stIn L (d'-1) s)∧body.length≤65536)∧(els.length≤65536→(∀s∈els,stIn L (d'-1) s)∧els.length≤65536)):=hI (by
   cases d' with
   | zero=>exact hin.elim
   | succ d'=>exact⟨fun h=>⟨hin.2.1,h⟩,fun h=>⟨hin.2.2,h⟩⟩)
  have HBK0:=hw.block;obtain⟨r,hr⟩:∃r,((tVal k F env m x).bind fun r=>(if r.1≠0 then zK k F env r.2 body else zK k F env r.2 els).bind fun q=>.ok ((0:Int),q.2))=r:=⟨_,rfl⟩
  rw[hr] at hbad ⊢;have HR:=hI hr;have HBAD:=hI hbad;generalize hPO:zse W B0 nb L bs m r=PO;have HPO:=hI hPO;have HBK1:=hI HBK0;have k1n:0<(x::xs).length:=by rw[List.length_cons];omega
  have k1:(0:Int)<(((x::xs).length:Nat):Int):=by rw[List.length_cons];omega
  generalize (x::xs).length=ln at *;clear hev hxa hxb hxe hin hbX hPO hr hw hn1 hn2 hsx hxx hbx hmo hb0 hbad HBK0;obtain⟨c7,_⟩:=zz HXX.o 7;obtain⟨c8,_⟩:=zz HXX.o 8;obtain⟨c9,_⟩:=zz HXX.o 9;go_enter Tryz.func47,Tryz.ntmps47;go_upto_region 13 with (fail);generalize W.alloc _=v3 at *;generalize W.heap.size=X at *;go_wp2_with fail;refine (HC.o).mono ?_;intro e v1 hpost;cases hq:tVal k F env m x
  case bad=>exact uXU
  case trap=>rw[hq] at hpost;obtain⟨rfl,hb2⟩:=hpost;have HRT:Jd (r=.trap):=hI (by rw[←HR.o,hq];rfl);have HB2:=hI (HBLW.o v1 hb2);clear hq hb2 c7 c8 c9 x0 x1 x2 x3 x4;exact uKA
  rename_i q;rw[hq] at hpost;obtain⟨iv,m1⟩:=q;obtain⟨rfl,bs1,hok⟩:=hpost;have HOK2:=hI (HOK1.o.trans hok);have HEV2:=hI (HEV1.o.step hok);have HB02:=hI (hok.below HEV1.o.mem HEV1.o.le.2);have HB12:=hI ((hok.below HEV1.o.mem HEV1.o.le.2).mono HEV1.o.le.1);have HR1:Jd (((if iv≠0 then zK k F env m1 body else zK k F env m1 els).bind fun q=>.ok ((0:Int),q.2))=r):=hI (by rw[←HR.o,hq];rfl);replace c8:=zv hok.kp HNS.o c8;replace c9:=zv hok.kp HNS.o c9;have HBK:Jd (∀(l:List TSt) (v:Value) (W:World),EvAt W B B0 fr fb nb Nf n L F env bs1 m1→zj (zM (d1+1)) W B v l→((∀s∈l,stIn L (d'-1) s)∧l.length≤65536)→zK k F env m1 l≠.bad→Calls Tryz.prog 24 #[.pointer (some ⟨fr,0,none⟩),v] W (zse W B0 nb L bs1 m1 (zK k F env m1 l))):=hI (fun l v W h1 h2 h3 h4=>HBK1.o B B0 fr fb nb Nf n (d1+1) (d'-1) L F env bs1 m1 l v W h1 h2 h3.1 h3.2 h4);clear hq hok c7 x0 x1 x2 x3 x4;simp only;by_cases hz:iv≠0
  · have HIF:Jd ((if iv≠0 then zK k F env m1 body else zK k F env m1 els)=zK k F env m1 body):=hI (if_pos hz);have q9:(iv != 0)=true:=nC hz;clear hz;have hbd:zK k F env m1 body≠.bad:=fun e=>HBAD.o (by rw[←HR1.o,HIF.o,e];rfl);have HC2:=hI (HBK.o body (.slice Ab body.length cb) v1 HEV2.o (HXb.o.below HB12.o (Nat.le_refl _)) (HIB.o.1 hn3) hbd);obtain⟨r2,hr2⟩:∃r2,zK k F env m1 body=r2:=⟨_,rfl⟩
    exact uZc
  have HIF:Jd ((if iv≠0 then zK k F env m1 body else zK k F env m1 els)=zK k F env m1 els):=hI (if_neg hz);obtain rfl:iv=0:=Classical.byContradiction hz;clear hz;have hbd:zK k F env m1 els≠.bad:=fun e=>HBAD.o (by rw[←HR1.o,HIF.o,e];rfl);have HC2:=hI (HBK.o els (.slice Ae els.length ce) v1 HEV2.o (HXe.o.below HB12.o (Nat.le_refl _)) (HIB.o.2 hn4) hbd);obtain⟨r2,hr2⟩:∃r2,zK k F env m1 els=r2:=⟨_,rfl⟩
  exact uZc
section
variable {p:Prop}
theorem uKo (h:p:=by
 clear hg hl0;go_wp2_with fail;refine (HAT.o).mono ?_;rintro e v ⟨rfl,hw4⟩;have hw4:=hw4.symm;subst hw4;go_wp2_with fail;refine (HSTO.o).mono ?_;rintro e v2 ⟨⟨u5,rfl⟩,rfl⟩;go_wp2_with fail;rw[←HPO.o,HRT.o];exact⟨rfl,bs2,HEV.o.toS HPUT.o⟩):p:=h
end
theorem zHE {k:Nat} (hw:zOI k):∀B B0 fr fb nb Nf n d d' L F env bs m kind pos most name te tl tb args body els has va vb ve W,kind=4→EvAt W B B0 fr fb nb Nf n L F env bs m→stSm (.mk kind pos most name ⟨te,tl,tb⟩ args body els has)→zj (zO d) W B va args→zj (zM d) W B vb body→zj (zM d) W B ve els→stIn L d' (.mk kind pos most name ⟨te,tl,tb⟩ args body els has)→z8H (k+1) F env m (.mk kind pos most name ⟨te,tl,tb⟩ args body els has)≠.bad →
  Calls Tryz.prog 47 #[.pointer (some ⟨fr,0,none⟩),.agg #[kind,pos,most,name,te,tl,tb,va,vb,ve,has]] W (zse W B0 nb L bs m (z8H (k+1) F env m (.mk kind pos most name ⟨te,tl,tb⟩ args body els has))):=by
 intro B B0 fr fb nb Nf n d d' L F env bs m kind pos most name te tl tb args body els has va vb ve W hk hev hsm hxa hxb hxe hin hbad;subst hk;obtain⟨hn1,hn2,hn3,hn4⟩:=hsm;simp only[TSt.name,TSt.args,TSt.body,TSt.els] at hn1 hn2 hn3 hn4;obtain⟨A,ca,rfl,_⟩:=hxa.shape;obtain⟨Ab,cb,rfl,_⟩:=hxb.shape;obtain⟨Ae,ce,rfl,_⟩:=hxe.shape;have hbX:=bnew W (.cells #[.int .i64 4,pos,most,name,te,tl,tb,.slice A args.length ca,.slice Ab body.length cb,.slice Ae els.length ce,has] 126);have HXX:=hI (heap_alloc_new W (.cells #[.int .i64 4,pos,most,name,te,tl,tb,.slice A args.length ca,.slice Ab body.length cb,.slice Ae els.length ce,has] 126));have HOK1:=hI (hev.ok hbX);have HEV1:=hI (hev.step (hev.ok hbX));have hmo:=hbX.mono (Nat.le_trans hev.le.1 hev.le.2);have HXa:=hI (hxa.below hmo (Nat.le_refl _));have HXb:=hI (hxb.below hmo (Nat.le_refl _));have HXe:=hI (hxe.below hmo (Nat.le_refl _));have HEV:=hI hev;have HNS:Jd (W.heap.size∉bs):=hI (fun h9=>by have:=(hev.mem.mem_le _ h9).2;omega);have HBLW:=hI (fun (v:World) (h:Below B0 (W.alloc (.cells #[.int .i64 4,pos,most,name,te,tl,tb,.slice A args.length ca,.slice Ab body.length cb,.slice Ae els.length ce,has] 126)) v)=>(hbX.mono hev.le.2).trans h);have HN1:=hI hn1;unfold z8H at hbad ⊢;rw[if_neg (by decide),if_neg (by decide),if_neg (by decide),if_pos rfl] at hbad ⊢;match args,hbad,hxa,HXa,HXX,HOK1,HEV1,HBLW,hbX with
 | [],hbad,_,_,_,_,_,_,_=>exact absurd rfl hbad
 | [_],hbad,_,_,_,_,_,_,_=>exact absurd rfl hbad
 | x::y::xs,hbad,hxa,HXa,HXX,HOK1,HEV1,HBLW,hbX =>
  simp only at hbad ⊢;obtain⟨d1,b,off,vx,rfl,rfl,hb0,hsx,hxx,x0,x1,x2,x3,x4⟩:=zYA HXa.o 0 (by simp);simp only[List.getD_cons_zero,Nat.zero_mul,Nat.add_zero] at hsx hxx x0 x1 x2 x3 x4;obtain⟨d2,b',off',vy,e1,e2,_,hsy,hyy,y0,y1,y2,y3,y4⟩:=zYA HXa.o 1 (by simp);obtain rfl:d1=d2:=by omega
  obtain⟨rfl,rfl⟩:b=b'∧off=off':=by simpa using e2
  simp only[List.getD_cons_succ,List.getD_cons_zero,Nat.one_mul] at hsy hyy y0 y1 y2 y3 y4;clear e1 e2;obtain⟨Ax,cx,rfl,_⟩:=hxx.shape;obtain⟨Ay,cy,rfl,_⟩:=hyy.shape;have hbx:tVal k F env m x≠.bad:=fun e=>hbad (by rw[e];rfl);have HC:=hI (hw.val B B0 fr fb nb Nf n d1 L F env bs m x (.slice Ax x.args.length cx) _ HEV1.o hsx hxx hbx);unfold zem at HC;have HVAL:=hI hw.val;have HYY:=hI hyy;have HSY:=hI hsy;have HNB:Jd (b∉bs):=hI (fun h9=>by have h1:=(hev.mem.mem_le _ h9).1;have h2:=hev.le.1;omega);obtain⟨r,hr⟩:∃r,((tVal k F env m x).bind fun r=>(tVal k F env r.2 y).bind fun q=>(tAtC q.2 env name r.1).bind fun c=>(zbN q.2 c r.1 q.1).bind fun m=>.ok ((0:Int),env,m))=r:=⟨_,rfl⟩
  rw[hr] at hbad ⊢;have HR:=hI hr;have HBAD:=hI hbad;generalize hPO:zse W B0 nb L bs m r=PO;have HPO:=hI hPO;have k1:(0:Int)<(((x::y::xs).length:Nat):Int):=by rw[List.length_cons];omega
  have k2:(1:Int)<(((x::y::xs).length:Nat):Int):=by rw[List.length_cons,List.length_cons];omega
  have HXL:Jd (W.heap.size<(W.alloc (.cells #[.int .i64 4,pos,most,name,te,tl,tb,.slice (some ⟨b,off,none⟩) (x::y::xs).length ca,.slice Ab body.length cb,.slice Ae els.length ce,has] 126)).heap.size):=hI (by simp);generalize (x::y::xs).length=ln at *;clear hev hxa hxb hxe hin hbX hPO hr hw hn1 hn2 hn3 hn4 hsx hxx hbx hmo hb0 hbad hyy hsy;obtain⟨c3,_⟩:=zz HXX.o 3;obtain⟨c7,_⟩:=zz HXX.o 7;go_enter Tryz.func47,Tryz.ntmps47;go_upto_region 9 with (fail);generalize W.alloc (.cells #[.int .i64 4,pos,most,name,te,tl,tb,.slice (some ⟨b,off,none⟩) ln ca,.slice Ab body.length cb,.slice Ae els.length ce,has] 126)=v1 at *;generalize W.heap.size=X at *;go_wp2_with fail;refine (HC.o).mono ?_;intro e v hpost;cases hq:tVal k F env m x
  case bad=>exact uXU
  case trap=>rw[hq] at hpost;obtain⟨rfl,hb2⟩:=hpost;have HRT:Jd (r=.trap):=hI (by rw[←HR.o,hq];rfl);have HB2:=hI (HBLW.o v hb2);clear hq hb2 c3 c7 x0 x1 x2 x3 x4 y0 y1 y2 y3 y4;exact uKA
  rename_i q;rw[hq] at hpost;obtain⟨iv,m1⟩:=q;obtain⟨rfl,bs1,hok⟩:=hpost;have HOK2:=hI (HOK1.o.trans hok);have HEV2:=hI (HEV1.o.step hok);have hb02:=hok.below HEV1.o.mem HEV1.o.le.2;have HB02:=hI hb02;have HR1:Jd (((tVal k F env m1 y).bind fun q=>(tAtC q.2 env name iv).bind fun c=>(zbN q.2 c iv q.1).bind fun m=>.ok ((0:Int),env,m))=r):=hI (by rw[←HR.o,hq];rfl);replace c3:=zv hok.kp HNS.o c3;replace c7:=zv hok.kp HNS.o c7;replace y0:=zv hok.kp HNB.o y0;replace y1:=zv hok.kp HNB.o y1;replace y2:=zv hok.kp HNB.o y2;replace y3:=zv hok.kp HNB.o y3;replace y4:=zv hok.kp HNB.o y4;have hby:tVal k F env m1 y≠.bad:=fun e=>HBAD.o (by rw[←HR1.o,e];rfl);have HCY:=hI (HVAL.o B B0 fr fb nb Nf n d1 L F env bs1 m1 y (.slice Ay y.args.length cy) v HEV2.o HSY.o (HYY.o.below (hb02.mono HEV1.o.le.1) (Nat.le_refl _)) hby);unfold zem at HCY
  have HNS1:Jd (X∉bs1):=hI (fun h9=>by
   rcases hok.new _ h9 with h1 | h1
   · exact HNS.o h1
   have:=HXL.o;omega)
  clear hq hok hb02 hby x0 x1 x2 x3 x4 HR;have HR:=HR1;simp only;go_wp2_with fail;refine (HCY.o).mono ?_;intro e v1 hpost;cases hq:tVal k F env m1 y
  case bad=>exact uXU
  case trap=>rw[hq] at hpost;obtain⟨rfl,hb2⟩:=hpost;have HRT:Jd (r=.trap):=hI (by rw[←HR.o,hq];rfl);have HB2:=hI ((HBLW.o v HB02.o).trans hb2);clear hq hb2 c3 c7 y0 y1 y2 y3 y4;exact uKA
  rename_i q;rw[hq] at hpost;obtain⟨jv,m2⟩:=q;obtain⟨rfl,bs2,hok⟩:=hpost;have HOK3:=hI (HOK2.o.trans hok);have HEV3:=hI (HEV2.o.step hok);have HB03:=hI ((HBLW.o v HB02.o).trans (hok.below HEV2.o.mem HEV2.o.le.2));replace c3:=zv hok.kp HNS1.o c3;have HR2:Jd (((tAtC m2 env name iv).bind fun c=>(zbN m2 c iv jv).bind fun m=>.ok ((0:Int),env,m))=r):=hI (by rw[←HR.o,hq];rfl);clear hq hok c7 y0 y1 y2 y3 y4 HR;simp only;cases he:env name
  case none=>exfalso;have h1:=HR2.o;unfold tAtC at h1;rw[he] at h1;exact HBAD.o h1.symm
  rename_i cc;obtain⟨a,g,hma,hbg,hl0⟩:=HEV3.o.nm.look HN1.o he;obtain⟨g',hbg',_,hg,ha⟩:=HEV3.o.mem.at_ cc a hma;rw[hbg] at hbg';cases hbg';have h1:=HR2.o;unfold tAtC at h1;rw[he] at h1;simp only at h1;rw[hma] at h1;simp only at h1;by_cases hle:(a.l.length:Int)≤iv
  · rw[if_pos hle] at h1;have HRT:Jd (r=.trap):=hI h1.symm;have HAT:=hI (zG7 fr nb (.map (some fb)) name a g ha iv hle v1 HEV3.o.frm hl0);clear h1 he hma hbg hg ha hl0;go_wp2_with fail;refine (HAT.o).mono ?_;rintro e v ⟨rfl,hw4⟩;have hw4:=hw4.symm;subst hw4;go_wp2_with fail;refine⟨rfl,?_⟩;rw[←HPO.o,HRT.o];exact⟨rfl,HB03.o⟩
  rw[if_neg hle] at h1;have h1:((zbN m2 cc iv jv).bind fun m=>.ok ((0:Int),env,m))=r:=h1;by_cases h0:0≤iv
  · obtain⟨j,rfl⟩:∃j:Nat,iv=j:=⟨iv.toNat,by omega⟩
    have hjl:j<a.l.length:=by omega
    have HAT:=hI (zA7 fr nb (.map (some fb)) name a g ha j hjl v1 HEV3.o.frm hl0);obtain⟨m3,hm3⟩:∃m3,zbN m2 cc (j:Int) jv=.ok m3:=by unfold zbN;rw[hma];simp only;rw[if_pos ⟨by omega,by rw[Int.toNat_natCast];exact hjl⟩];exact⟨_,rfl⟩
    rw[hm3] at h1;have HRT:Jd (r=.ok (0,env,m3)):=hI h1.symm;have HPUT:=hI (HEV.o.putS HOK3.o hma hbg hjl hm3);clear h1 hm3 he hma hbg hle h0 ha;obtain⟨o,l⟩:=a;simp only at hjl HPUT;cases o
    case true=>unfold zVt at hl0 HAT;unfold zmX at hg;simp only[if_true] at hl0 hg HAT HPUT;have HSTO:=hI (zgg g j l hjl jv v1 hg);exact uKo
    unfold zVt at hl0 HAT;unfold zmX at hg;simp only[Bool.false_eq_true,if_false] at hl0 hg HAT HPUT;have HSTO:=hI (zRd g j l hjl jv v1 hg);exact uKo
  exfalso;unfold zbN at h1;rw[hma] at h1;simp only at h1;rw[if_neg (fun h=>h0 h.1)] at h1;exact HBAD.o h1.symm
section
variable {p:Prop}
theorem uET (h:p:=by
 obtain⟨u1,u2,u3,z0,z1,z2,z3,z4⟩:=hS1;exact⟨zv (Kp.of_below (S:=fun _=>False) hbn) (fun h=>h) u1,zv (Kp.of_below (S:=fun _=>False) hbn) (fun h=>h) u2,zv (Kp.of_below (S:=fun _=>False) hbn) (fun h=>h) u3,zv (Kp.of_below (S:=fun _=>False) hbn) (fun h=>h) z0,zv (Kp.of_below (S:=fun _=>False) hbn) (fun h=>h) z1,zv (Kp.of_below (S:=fun _=>False) hbn) (fun h=>h) z2,zv (Kp.of_below (S:=fun _=>False) hbn) (fun h=>h) z3,zv (Kp.of_below (S:=fun _=>False) hbn) (fun h=>h) z4⟩):p:=h
theorem uOC (h:p:=by
 rw[HPUT.o];go_simp;refine hK.o _ _ (fun h=>absurd rfl h) ?_;clear hK;try simp only[Act.put,pA,pB,pC]
 refine wD ?_ _;go_wp2_with fail;rw[←HPO.o];exact⟨rfl,_,HEND.o⟩):p:=h
end
theorem zrv {k:Nat} (hw:zOI k):∀B B0 fr fb nb Nf n d d' L F env bs m kind pos most name te tl tb args body els has va vb ve W,kind=1→EvAt W B B0 fr fb nb Nf n L F env bs m→stSm (.mk kind pos most name ⟨te,tl,tb⟩ args body els has)→zj (zO d) W B va args→zj (zM d) W B vb body→zj (zM d) W B ve els→stIn L d' (.mk kind pos most name ⟨te,tl,tb⟩ args body els has)→z8H (k+1) F env m (.mk kind pos most name ⟨te,tl,tb⟩ args body els has)≠.bad →
  Calls Tryz.prog 47 #[.pointer (some ⟨fr,0,none⟩),.agg #[kind,pos,most,name,te,tl,tb,va,vb,ve,has]] W (zse W B0 nb L bs m (z8H (k+1) F env m (.mk kind pos most name ⟨te,tl,tb⟩ args body els has))):=by
 intro B B0 fr fb nb Nf n d d' L F env bs m kind pos most name te tl tb args body els has va vb ve W hk hev hsm hxa hxb hxe hin hbad;subst hk;obtain⟨hn1,hn2,hn3,hn4⟩:=hsm;simp only[TSt.name,TSt.args,TSt.body,TSt.els] at hn1 hn2 hn3 hn4;obtain⟨A,ca,rfl,_⟩:=hxa.shape;obtain⟨Ab,cb,rfl,_⟩:=hxb.shape;obtain⟨Ae,ce,rfl,_⟩:=hxe.shape;have hbX:=bnew W (.cells #[.int .i64 1,pos,most,name,te,tl,tb,.slice A args.length ca,.slice Ab body.length cb,.slice Ae els.length ce,has] 126);have HXX:=hI (heap_alloc_new W (.cells #[.int .i64 1,pos,most,name,te,tl,tb,.slice A args.length ca,.slice Ab body.length cb,.slice Ae els.length ce,has] 126));have HOK1:=hI (hev.ok hbX);have HEV1:=hI (hev.step (hev.ok hbX));have hmo:=hbX.mono (Nat.le_trans hev.le.1 hev.le.2);have HXa:=hI (hxa.below hmo (Nat.le_refl _));have HXb:=hI (hxb.below hmo (Nat.le_refl _));have HXe:=hI (hxe.below hmo (Nat.le_refl _));have HEV:=hI hev;have HNS:Jd (W.heap.size∉bs):=hI (fun h9=>by have:=(hev.mem.mem_le _ h9).2;omega);have HBLW:=hI (fun (v:World) (h:Below B0 (W.alloc (.cells #[.int .i64 1,pos,most,name,te,tl,tb,.slice A args.length ca,.slice Ab body.length cb,.slice Ae els.length ce,has] 126)) v)=>(hbX.mono hev.le.2).trans h);have HN1:=hI hn1;unfold z8H at hbad ⊢;rw[if_pos rfl] at hbad ⊢;cases args with
 | nil=>exact absurd rfl hbad
 | cons x xs =>
  simp only at hbad ⊢;obtain⟨d1,b,off,vx,rfl,rfl,hb0,hsx,hxx,x0,x1,x2,x3,x4⟩:=zYA HXa.o 0 (by simp);simp only[List.getD_cons_zero,Nat.zero_mul,Nat.add_zero] at hsx hxx x0 x1 x2 x3 x4;obtain⟨Ax,cx,rfl,_⟩:=hxx.shape;have hbx:tVal k F env m x≠.bad:=fun e=>hbad (by rw[e];rfl);have HVL:=hI (fun W1 h1 h2=>hw.val B B0 fr fb nb Nf n d1 L F env bs m x (.slice Ax x.args.length cx) W1 h1 hsx h2 hbx);unfold zem at HVL;have HXX1:=hI hxx
  have HIN:Jd (name∈L):=hI (by
   cases d' with
   | zero=>exact hin.elim
   | succ d'=>exact hin.1 (Or.inl rfl))
  have HNB:Jd (b∉bs∧fr∉bs):=hI ⟨fun h9=>by have h1:=(hev.mem.mem_le _ h9).1;have h2:=hev.le.1;omega,fun h9=>(hev.far _ h9).1 rfl⟩;obtain⟨r,hr⟩:∃r,tVal k F env m x=r:=⟨_,rfl⟩
  rw[hr] at hbad HVL ⊢;generalize hPO:zse W B0 nb L bs m (r.bind fun r=>.ok ((0:Int),zSy env name r.2.length,r.2++[⟨false,[r.1]⟩]))=PO;have HPO:=hI hPO;have HXL:Jd (W.heap.size<(W.alloc (.cells #[.int .i64 1,pos,most,name,te,tl,tb,.slice (some ⟨b,off,none⟩) (x::xs).length ca,.slice Ab body.length cb,.slice Ae els.length ce,has] 126)).heap.size):=hI (by simp);have k1n:0<(x::xs).length:=by rw[List.length_cons];omega
  have k1:(0:Int)<(((x::xs).length:Nat):Int):=by rw[List.length_cons];omega
  generalize (x::xs).length=ln at *;clear hev hxa hxb hxe hin hbX hPO hr hw hn1 hn2 hn3 hn4 hsx hxx hbx hmo hb0;obtain⟨c3,_⟩:=zz HXX.o 3;obtain⟨c7,_⟩:=zz HXX.o 7;go_enter Tryz.func47,Tryz.ntmps47;go_upto_region 3 with (fail);generalize W.alloc _=v1 at *;have HSZ:Jd (W.heap.size=W.heap.size):=hI rfl;obtain⟨X,hXe⟩:∃X,W.heap.size=X:=⟨_,rfl⟩
  have HXE:=hI hXe;rw[hXe] at HXX HNS HXL c3 c7 ⊢;clear hXe;have hf1:=(zz HEV1.o.frm 1).1;have HB1D:=hI (bdr (Below.refl v1.heap.size v1));have hS0:(fun w'=>w'.cell? ⟨fr,1,none⟩=some (.map (some nb))∧w'.cell? ⟨X,3,none⟩=some (.string name)∧w'.cell? ⟨X,7,none⟩=some (.slice (some ⟨b,off,none⟩) ln ca)∧w'.cell? ⟨b,off,none⟩=some (Value.int .i64 x.kind)∧w'.cell? ⟨b,off+1,none⟩=some (Value.int .i64 x.pos)∧w'.cell? ⟨b,off+2,none⟩=some (Value.int .i64 x.num)∧w'.cell? ⟨b,off+3,none⟩=some (Value.string x.name)∧w'.cell? ⟨b,off+4,none⟩=some (Value.slice Ax x.args.length cx)) v1.drew:=⟨hf1,c3,c7,x0,x1,x2,x3,x4⟩
  have HOKD:=hI (HOK1.o.trans (HEV1.o.ok HB1D.o));have HEVD:=hI (HEV1.o.step (HEV1.o.ok HB1D.o));have HC:=hI (HVL.o v1.drew HEVD.o (HXX1.o.below (HB1D.o.mono (Nat.le_trans HEV1.o.le.1 HEV1.o.le.2)) (Nat.le_refl _)));have HDS:Jd (v1.drew.heap.size=v1.heap.size):=hI rfl;refine wL (fun w'=>w'.cell? ⟨fr,1,none⟩=some (.map (some nb))∧w'.cell? ⟨X,3,none⟩=some (.string name)∧w'.cell? ⟨X,7,none⟩=some (.slice (some ⟨b,off,none⟩) ln ca)∧w'.cell? ⟨b,off,none⟩=some (Value.int .i64 x.kind)∧w'.cell? ⟨b,off+1,none⟩=some (Value.int .i64 x.pos)∧w'.cell? ⟨b,off+2,none⟩=some (Value.int .i64 x.num)∧w'.cell? ⟨b,off+3,none⟩=some (Value.string x.name)∧w'.cell? ⟨b,off+4,none⟩=some (Value.slice Ax x.args.length cx)) 14 ?_;have HBLD:=hI (fun (v:World) (h:Below B0 v1.drew v)=>HBLW.o v ((bdr (Below.refl B0 v1)).trans h));clear hf1 c3 c7 x0 x1 x2 x3 x4;generalize v1.drew=wd at *;refine tg 0 13 (.pointer (some ⟨fr,0,none⟩)) hS0 ?_;refine tg 1 14 (.pointer (some ⟨fr,0,none⟩)) hS0 ?_;refine tg 2 15 (.pointer (some ⟨fr,1,none⟩)) hS0 ?_;refine tg 3 16 (.map (some nb)) hS0 ?_;refine tg 4 17 (.pointer (some ⟨X,3,none⟩)) hS0 ?_;refine tg 5 18 (.string name) hS0 ?_;refine tg 6 19 (.pointer (some ⟨fr,0,none⟩)) hS0 ?_;refine tg 7 20 (.pointer (some ⟨X,7,none⟩)) hS0 ?_;refine tg 8 21 (.slice (some ⟨b,off,none⟩) ln ca) hS0 ?_;refine tg 9 22 (.pointer (some ⟨b,off,none⟩)) hS0 ?_;refine tg 10 23 (.agg #[x.kind,x.pos,x.num,x.name,.slice Ax x.args.length cx]) hS0 ?_;try simp only[Act.put,pA,pB,pC]
  refine wone 11 fun K hK=>?_;go_simp;refine (HC.o).mono ?_;intro e v hpost;cases r
  case bad=>exact absurd rfl hbad
  case trap=>obtain⟨rfl,hb2⟩:=hpost;have HB2:=hI (HBLD.o v hb2);clear hb2 hK hS0;exact uHc
  rename_i q;obtain⟨iv,m1⟩:=q;obtain⟨rfl,bs1,hok⟩:=hpost;have HOK2:=hI (HOKD.o.trans hok);have HEV2:=hI (HEVD.o.step hok);have hS1:(fun w'=>w'.cell? ⟨fr,1,none⟩=some (.map (some nb))∧w'.cell? ⟨X,3,none⟩=some (.string name)∧w'.cell? ⟨X,7,none⟩=some (.slice (some ⟨b,off,none⟩) ln ca)∧w'.cell? ⟨b,off,none⟩=some (Value.int .i64 x.kind)∧w'.cell? ⟨b,off+1,none⟩=some (Value.int .i64 x.pos)∧w'.cell? ⟨b,off+2,none⟩=some (Value.int .i64 x.num)∧w'.cell? ⟨b,off+3,none⟩=some (Value.string x.name)∧w'.cell? ⟨b,off+4,none⟩=some (Value.slice Ax x.args.length cx)) v:=by obtain⟨u1,u2,u3,z0,z1,z2,z3,z4⟩:=hS0;exact⟨zv hok.kp HNB.o.2 u1,zv hok.kp HNS.o u2,zv hok.kp HNS.o u3,zv hok.kp HNB.o.1 z0,zv hok.kp HNB.o.1 z1,zv hok.kp HNB.o.1 z2,zv hok.kp HNB.o.1 z3,zv hok.kp HNB.o.1 z4⟩
  refine hK.o _ _ (fun _=>hS1) ?_;clear hK hok hS0;simp only;try simp only[Act.put,pA,pB,pC]
  have hbn:=bnew v (.cells #[iv] 3);have HOKN:=hI (HOK2.o.trans (HEV2.o.ok hbn));have HEVN:=hI (HEV2.o.step (HEV2.o.ok hbn));have hgn:=heap_alloc_new v (.cells #[iv] 3);have HGN:=hI hgn;have HGF:Jd (v.heap.size∉bs1∧W.heap.size≤v.heap.size):=hI ⟨fun h9=>by have:=(HEV2.o.mem.mem_le _ h9).2;omega,HOK2.o.kp.siz⟩;have hS2:(fun w'=>w'.cell? ⟨fr,1,none⟩=some (.map (some nb))∧w'.cell? ⟨X,3,none⟩=some (.string name)∧w'.cell? ⟨X,7,none⟩=some (.slice (some ⟨b,off,none⟩) ln ca)∧w'.cell? ⟨b,off,none⟩=some (Value.int .i64 x.kind)∧w'.cell? ⟨b,off+1,none⟩=some (Value.int .i64 x.pos)∧w'.cell? ⟨b,off+2,none⟩=some (Value.int .i64 x.num)∧w'.cell? ⟨b,off+3,none⟩=some (Value.string x.name)∧w'.cell? ⟨b,off+4,none⟩=some (Value.slice Ax x.args.length cx)) (v.alloc (.cells #[iv] 3)):=by exact uET
  generalize hwn:v.alloc _=wn at *;have HWN:=hI hwn;obtain⟨wp,hput,hgr,hnm⟩:=HEVN.o.nm.put HEVN.o.lim HN1.o HIN.o ⟨false,[iv]⟩ v.heap.size;unfold zVt at hput;simp only[Bool.false_eq_true,if_false,List.length_cons,List.length_nil,Nat.zero_add] at hput;have HEND:=hI (HEV.o.letS HOKN.o (a:=⟨false,[iv]⟩) ⟨by simp,by simp,fun h=>by cases h⟩ HGF.o.1 HGF.o.2 HGN.o hgr hnm);have HPUT:=hI hput;clear hbn hgn hgr hnm hput;refine wone 12 fun K hK=>?_;go_simp;try rw[HWN.o]
  refine hK.o _ _ (fun _=>hS2) ?_;clear hK;try simp only[Act.put,pA,pB,pC]
  refine wone 13 fun K hK=>?_;go_simp;refine hK.o _ _ (fun _=>hS2) ?_;clear hK;try simp only[Act.put,pA,pB,pC]
  refine wone 14 fun K hK=>?_;go_simp;exact uOC
section
variable {p:Prop}
theorem uQX (h:p:=by
 refine hK.o _ _ (fun _=>hS1) ?_;clear hK hok hS0 hq hma2 hbg2 hl2 hg2 ha2 hm3 hlen3;simp only;try simp only[Act.put,pA,pB,pC]
 have HL5:=hI hl4;clear hl4 hma4 hbg4 hlen5;refine wone 15 fun K hK=>?_;go_simp;refine (HSTO.o).mono ?_;rintro e v2 ⟨⟨u5,rfl⟩,rfl⟩;refine hK.o _ _ (fun _=>by obtain⟨u1,u2,u3,z0,z1,z2,z3,z4,ul⟩:=hS1;exact⟨zv HPUU.o.kp HGS.o.2.2 u1,zv HPUU.o.kp HGS.o.1 u2,zv HPUU.o.kp HGS.o.1 u3,zv HPUU.o.kp HGS.o.2.1 z0,zv HPUU.o.kp HGS.o.2.1 z1,zv HPUU.o.kp HGS.o.2.1 z2,zv HPUU.o.kp HGS.o.2.1 z3,zv HPUU.o.kp HGS.o.2.1 z4,HL5.o⟩) ?_
 clear hK;try simp only[Act.put,pA,pB,pC]
 refine wD ?_ _;go_wp2_with fail;rw[←HPO.o,HRT.o];exact⟨rfl,bs1,HEV.o.toS HPUT.o⟩):p:=h
theorem uP8 (h:p:=by
 obtain⟨u1,u2,u3,z0,z1,z2,z3,z4,ul⟩:=hS0;exact⟨zv hok.kp HNB.o.2 u1,zv hok.kp HNS.o u2,zv hok.kp HNS.o u3,zv hok.kp HNB.o.1 z0,zv hok.kp HNB.o.1 z1,zv hok.kp HNB.o.1 z2,zv hok.kp HNB.o.1 z3,zv hok.kp HNB.o.1 z4,hl2⟩):p:=h
theorem uQw (h:p:=by
 rw[hq] at hpost;obtain⟨rfl,hb2⟩:=hpost;have HRT:Jd (r=.trap):=hI (by rw[←HR.o,hq];rfl);have HB2:=hI (HBLD.o v hb2);clear hq hb2 hK hS0;exact uKA):p:=h
end
theorem zWY {k:Nat} (hw:zOI k):∀B B0 fr fb nb Nf n d d' L F env bs m kind pos most name te tl tb args body els has va vb ve W,kind=3→EvAt W B B0 fr fb nb Nf n L F env bs m→stSm (.mk kind pos most name ⟨te,tl,tb⟩ args body els has)→zj (zO d) W B va args→zj (zM d) W B vb body→zj (zM d) W B ve els→stIn L d' (.mk kind pos most name ⟨te,tl,tb⟩ args body els has)→z8H (k+1) F env m (.mk kind pos most name ⟨te,tl,tb⟩ args body els has)≠.bad →
  Calls Tryz.prog 47 #[.pointer (some ⟨fr,0,none⟩),.agg #[kind,pos,most,name,te,tl,tb,va,vb,ve,has]] W (zse W B0 nb L bs m (z8H (k+1) F env m (.mk kind pos most name ⟨te,tl,tb⟩ args body els has))):=by
 intro B B0 fr fb nb Nf n d d' L F env bs m kind pos most name te tl tb args body els has va vb ve W hk hev hsm hxa hxb hxe hin hbad;subst hk;obtain⟨hn1,hn2,hn3,hn4⟩:=hsm;simp only[TSt.name,TSt.args,TSt.body,TSt.els] at hn1 hn2 hn3 hn4;obtain⟨A,ca,rfl,_⟩:=hxa.shape;obtain⟨Ab,cb,rfl,_⟩:=hxb.shape;obtain⟨Ae,ce,rfl,_⟩:=hxe.shape;have hbX:=bnew W (.cells #[.int .i64 3,pos,most,name,te,tl,tb,.slice A args.length ca,.slice Ab body.length cb,.slice Ae els.length ce,has] 126);have HXX:=hI (heap_alloc_new W (.cells #[.int .i64 3,pos,most,name,te,tl,tb,.slice A args.length ca,.slice Ab body.length cb,.slice Ae els.length ce,has] 126));have HOK1:=hI (hev.ok hbX);have HEV1:=hI (hev.step (hev.ok hbX));have hmo:=hbX.mono (Nat.le_trans hev.le.1 hev.le.2);have HXa:=hI (hxa.below hmo (Nat.le_refl _));have HXb:=hI (hxb.below hmo (Nat.le_refl _));have HXe:=hI (hxe.below hmo (Nat.le_refl _));have HEV:=hI hev;have HNS:Jd (W.heap.size∉bs):=hI (fun h9=>by have:=(hev.mem.mem_le _ h9).2;omega);have HBLW:=hI (fun (v:World) (h:Below B0 (W.alloc (.cells #[.int .i64 3,pos,most,name,te,tl,tb,.slice A args.length ca,.slice Ab body.length cb,.slice Ae els.length ce,has] 126)) v)=>(hbX.mono hev.le.2).trans h);have HN1:=hI hn1;unfold z8H at hbad ⊢;rw[if_neg (by decide),if_neg (by decide),if_pos rfl] at hbad ⊢;cases args with
 | nil=>exact absurd rfl hbad
 | cons x xs =>
  simp only at hbad ⊢;cases he:env name
  case none=>rw[he] at hbad;exact absurd rfl hbad
  rename_i cc;rw[he] at hbad;simp only at hbad ⊢;obtain⟨d1,b,off,vx,rfl,rfl,hb0,hsx,hxx,x0,x1,x2,x3,x4⟩:=zYA HXa.o 0 (by simp);simp only[List.getD_cons_zero,Nat.zero_mul,Nat.add_zero] at hsx hxx x0 x1 x2 x3 x4;obtain⟨Ax,cx,rfl,_⟩:=hxx.shape;have hbx:tVal k F env m x≠.bad:=fun e=>hbad (by rw[e];rfl);have HVL:=hI (fun W1 h1 h2=>hw.val B B0 fr fb nb Nf n d1 L F env bs m x (.slice Ax x.args.length cx) W1 h1 hsx h2 hbx);unfold zem at HVL;have HXX1:=hI hxx;have HBW:=hI hb0;have HNB:Jd (b∉bs∧fr∉bs):=hI ⟨fun h9=>by have h1:=(hev.mem.mem_le _ h9).1;have h2:=hev.le.1;omega,fun h9=>(hev.far _ h9).1 rfl⟩;obtain⟨r,hr⟩:∃r,((tVal k F env m x).bind fun r=>(zbN r.2 cc 0 r.1).bind fun m=>.ok ((0:Int),env,m))=r:=⟨_,rfl⟩
  rw[hr] at hbad ⊢;have HR:=hI hr;have HBAD:=hI hbad;generalize hPO:zse W B0 nb L bs m r=PO;have HPO:=hI hPO;have k1n:0<(x::xs).length:=by rw[List.length_cons];omega
  have k1:(0:Int)<(((x::xs).length:Nat):Int):=by rw[List.length_cons];omega
  generalize (x::xs).length=ln at *;clear hev hxa hxb hxe hin hbX hPO hr hw hn1 hn2 hn3 hn4 hsx hxx hbx hmo hb0 hbad;obtain⟨c3,_⟩:=zz HXX.o 3;obtain⟨c7,_⟩:=zz HXX.o 7;go_enter Tryz.func47,Tryz.ntmps47;go_upto_region 7 with (fail);have HBLT:Jd (b<(W.alloc (.cells #[.int .i64 3,pos,most,name,te,tl,tb,.slice (some ⟨b,off,none⟩) ln ca,.slice Ab body.length cb,.slice Ae els.length ce,has] 126)).heap.size):=hI (by have h1:=HBW.o;have h2:=HEV.o.le;simp;omega);generalize W.alloc _=v1 at *;obtain⟨X,hXe⟩:∃X,W.heap.size=X:=⟨_,rfl⟩
  rw[hXe] at HXX HNS c3 c7 ⊢;clear hXe;have hf1:=(zz HEV1.o.frm 1).1;have HB1D:=hI (bdr (Below.refl v1.heap.size v1));have HOKD:=hI (HOK1.o.trans (HEV1.o.ok HB1D.o));have HEVD:=hI (HEV1.o.step (HEV1.o.ok HB1D.o));have HXLT:Jd (X<v1.drew.heap.size∧b<v1.drew.heap.size∧fr<v1.drew.heap.size):=hI ⟨zh (g:=X) HXX.o,Nat.lt_of_lt_of_le (by have:=HBLT.o;omega) (show v1.heap.size≤v1.heap.size from Nat.le_refl _),zh HEV1.o.frm⟩;obtain⟨a,g,hma,hbg,hl0⟩:=HEVD.o.nm.look HN1.o he;have HMA:=hI hma;have HBG:=hI hbg;have HE:=hI he;have HC:=hI (HVL.o v1.drew HEVD.o (HXX1.o.below (HB1D.o.mono (Nat.le_trans HEV1.o.le.1 HEV1.o.le.2)) (Nat.le_refl _)));have HBLD:=hI (fun (v:World) (h:Below B0 v1.drew v)=>HBLW.o v ((bdr (Below.refl B0 v1)).trans h));clear hma hbg he;obtain⟨o,l⟩:=a;cases o
  case true =>
   unfold zVt at hl0;simp only[if_true] at hl0;have hS0:(fun w'=>w'.cell? ⟨fr,1,none⟩=some (.map (some nb))∧w'.cell? ⟨X,3,none⟩=some (.string name)∧w'.cell? ⟨X,7,none⟩=some (.slice (some ⟨b,off,none⟩) ln ca)∧w'.cell? ⟨b,off,none⟩=some (Value.int .i64 x.kind)∧w'.cell? ⟨b,off+1,none⟩=some (Value.int .i64 x.pos)∧w'.cell? ⟨b,off+2,none⟩=some (Value.int .i64 x.num)∧w'.cell? ⟨b,off+3,none⟩=some (Value.string x.name)∧w'.cell? ⟨b,off+4,none⟩=some (Value.slice Ax x.args.length cx)∧(Instr.lookup 80 (.map (some nb)) (.string name) false).run Tryz.prog w'=.ok (.iface 119 (.slice (some ⟨g,0,none⟩) l.length l.length)) w') v1.drew:=⟨hf1,c3,c7,x0,x1,x2,x3,x4,hl0⟩
   refine wL (fun w'=>w'.cell? ⟨fr,1,none⟩=some (.map (some nb))∧w'.cell? ⟨X,3,none⟩=some (.string name)∧w'.cell? ⟨X,7,none⟩=some (.slice (some ⟨b,off,none⟩) ln ca)∧w'.cell? ⟨b,off,none⟩=some (Value.int .i64 x.kind)∧w'.cell? ⟨b,off+1,none⟩=some (Value.int .i64 x.pos)∧w'.cell? ⟨b,off+2,none⟩=some (Value.int .i64 x.num)∧w'.cell? ⟨b,off+3,none⟩=some (Value.string x.name)∧w'.cell? ⟨b,off+4,none⟩=some (Value.slice Ax x.args.length cx)∧(Instr.lookup 80 (.map (some nb)) (.string name) false).run Tryz.prog w'=.ok (.iface 119 (.slice (some ⟨g,0,none⟩) l.length l.length)) w') 99 ?_;clear hf1 c3 c7 x0 x1 x2 x3 x4 hl0;generalize v1.drew=wd at *;refine tg 0 40 (.pointer (some ⟨fr,0,none⟩)) hS0 ?_;refine tg 1 41 (.pointer (some ⟨fr,0,none⟩)) hS0 ?_;refine tg 2 42 (.pointer (some ⟨fr,1,none⟩)) hS0 ?_;refine tg 3 43 (.map (some nb)) hS0 ?_;refine tg 4 44 (.pointer (some ⟨X,3,none⟩)) hS0 ?_;refine tg 5 45 (.string name) hS0 ?_;refine tg 6 46 (.iface 119 (.slice (some ⟨g,0,none⟩) l.length l.length)) hS0 ?_;refine tg 7 47 (.pointer (some ⟨fr,0,none⟩)) hS0 ?_;refine tg 8 48 (.pointer (some ⟨X,7,none⟩)) hS0 ?_;refine tg 9 49 (.slice (some ⟨b,off,none⟩) ln ca) hS0 ?_;refine tg 10 50 (.pointer (some ⟨b,off,none⟩)) hS0 ?_;refine tg 11 51 (.agg #[x.kind,x.pos,x.num,x.name,.slice Ax x.args.length cx]) hS0 ?_;refine tg 13 53 (.iface 119 (.slice (some ⟨g,0,none⟩) l.length l.length)) hS0 ?_;refine tg 14 54 (.iface 119 (.slice (some ⟨g,0,none⟩) l.length l.length)) hS0 ?_;try simp only[Act.put,pA,pB,pC]
   refine wone 12 fun K hK=>?_;go_simp;refine (HC.o).mono ?_;intro e v hpost;cases hq:tVal k F env m x
   case bad=>exact uXU
   case trap=>exact uQw
   rename_i q;rw[hq] at hpost;obtain⟨iv,m1⟩:=q;obtain⟨rfl,bs1,hok⟩:=hpost;have HOK2:=hI (HOKD.o.trans hok);have HEV2:=hI (HEVD.o.step hok);obtain⟨a2,g2,hma2,hbg2,hl2⟩:=HEV2.o.nm.look HN1.o HE.o;obtain⟨a3,hma3,ho3,hlen3⟩:=hok.shp cc _ HMA.o;rw[hma2] at hma3;cases hma3;have hg3:=hok.pre.at_ HBG.o;rw[hbg2] at hg3;cases hg3;obtain⟨g',hbg',_,hg2,ha2⟩:=HEV2.o.mem.at_ cc a2 hma2;rw[hbg2] at hbg';cases hbg';obtain⟨o2,l2⟩:=a2;simp only at ho3 hlen3;subst ho3;unfold zVt at hl2;unfold zmX at hg2;simp only[if_true] at hl2;simp only[if_true] at hg2;rw[hlen3] at hl2;obtain⟨m3,hm3⟩:∃m3,zbN m1 cc ((0:Nat):Int) iv=.ok m3:=by unfold zbN;rw[hma2];simp only;rw[if_pos ⟨by omega,by rw[Int.toNat_natCast];exact ha2.pos⟩];exact⟨_,rfl⟩
   have HPUT:=hI (HEV.o.putS HOK2.o hma2 hbg2 (i:=0) ha2.pos hm3);have HPUU:=hI (HEV2.o.putS (HEV2.o.ok (Below.refl _ v)) hma2 hbg2 (i:=0) ha2.pos hm3);simp only[if_true] at HPUT;simp only[if_true] at HPUU;have HGS:Jd (X∉bs1∧b∉bs1∧fr∉bs1):=hI ⟨fun h9=>(hok.new _ h9).elim (fun h8=>HNS.o h8) (fun h8=>by have:=HXLT.o;omega),fun h9=>(hok.new _ h9).elim (fun h8=>HNB.o.1 h8) (fun h8=>by have:=HXLT.o;omega),fun h9=>(hok.new _ h9).elim (fun h8=>HNB.o.2 h8) (fun h8=>by have:=HXLT.o;omega)⟩;obtain⟨a4,g4,hma4,hbg4,hl4⟩:=(HEV2.o.step HPUU.o).nm.look HN1.o HE.o;obtain⟨a5,hma5,ho5,hlen5⟩:=HPUU.o.shp cc _ hma2;rw[hma4] at hma5;cases hma5;have hg5:=HPUU.o.pre.at_ hbg2;rw[hbg4] at hg5;cases hg5;obtain⟨o4,l4⟩:=a4;simp only at ho5 hlen5;subst ho5;unfold zVt at hl4;simp only[if_true] at hl4;rw[hlen5,hlen3] at hl4;have HRT:Jd (r=.ok (0,env,m3)):=hI (by rw[←HR.o,hq];show (zbN m1 cc 0 iv).bind _=_;rw[show (0:Int)=((0:Nat):Int) from rfl,hm3];rfl)
   have HSTO:=hI (zgg g 0 l2 ha2.pos iv v hg2);rw[hlen3,show ((0:Nat):Int)=0 from rfl] at HSTO;have hS1:(fun w'=>w'.cell? ⟨fr,1,none⟩=some (.map (some nb))∧w'.cell? ⟨X,3,none⟩=some (.string name)∧w'.cell? ⟨X,7,none⟩=some (.slice (some ⟨b,off,none⟩) ln ca)∧w'.cell? ⟨b,off,none⟩=some (Value.int .i64 x.kind)∧w'.cell? ⟨b,off+1,none⟩=some (Value.int .i64 x.pos)∧w'.cell? ⟨b,off+2,none⟩=some (Value.int .i64 x.num)∧w'.cell? ⟨b,off+3,none⟩=some (Value.string x.name)∧w'.cell? ⟨b,off+4,none⟩=some (Value.slice Ax x.args.length cx)∧(Instr.lookup 80 (.map (some nb)) (.string name) false).run Tryz.prog w'=.ok (.iface 119 (.slice (some ⟨g,0,none⟩) l.length l.length)) w') v:=by exact uP8
   exact uQX
  unfold zVt at hl0;simp only[Bool.false_eq_true,if_false] at hl0;have hS0:(fun w'=>w'.cell? ⟨fr,1,none⟩=some (.map (some nb))∧w'.cell? ⟨X,3,none⟩=some (.string name)∧w'.cell? ⟨X,7,none⟩=some (.slice (some ⟨b,off,none⟩) ln ca)∧w'.cell? ⟨b,off,none⟩=some (Value.int .i64 x.kind)∧w'.cell? ⟨b,off+1,none⟩=some (Value.int .i64 x.pos)∧w'.cell? ⟨b,off+2,none⟩=some (Value.int .i64 x.num)∧w'.cell? ⟨b,off+3,none⟩=some (Value.string x.name)∧w'.cell? ⟨b,off+4,none⟩=some (Value.slice Ax x.args.length cx)∧(Instr.lookup 80 (.map (some nb)) (.string name) false).run Tryz.prog w'=.ok (.iface 120 (.slice (some ⟨g,0,none⟩) l.length l.length)) w') v1.drew:=⟨hf1,c3,c7,x0,x1,x2,x3,x4,hl0⟩
  refine wL (fun w'=>w'.cell? ⟨fr,1,none⟩=some (.map (some nb))∧w'.cell? ⟨X,3,none⟩=some (.string name)∧w'.cell? ⟨X,7,none⟩=some (.slice (some ⟨b,off,none⟩) ln ca)∧w'.cell? ⟨b,off,none⟩=some (Value.int .i64 x.kind)∧w'.cell? ⟨b,off+1,none⟩=some (Value.int .i64 x.pos)∧w'.cell? ⟨b,off+2,none⟩=some (Value.int .i64 x.num)∧w'.cell? ⟨b,off+3,none⟩=some (Value.string x.name)∧w'.cell? ⟨b,off+4,none⟩=some (Value.slice Ax x.args.length cx)∧(Instr.lookup 80 (.map (some nb)) (.string name) false).run Tryz.prog w'=.ok (.iface 120 (.slice (some ⟨g,0,none⟩) l.length l.length)) w') 99 ?_;clear hf1 c3 c7 x0 x1 x2 x3 x4 hl0;generalize v1.drew=wd at *;refine tg 0 40 (.pointer (some ⟨fr,0,none⟩)) hS0 ?_;refine tg 1 41 (.pointer (some ⟨fr,0,none⟩)) hS0 ?_;refine tg 2 42 (.pointer (some ⟨fr,1,none⟩)) hS0 ?_;refine tg 3 43 (.map (some nb)) hS0 ?_;refine tg 4 44 (.pointer (some ⟨X,3,none⟩)) hS0 ?_;refine tg 5 45 (.string name) hS0 ?_;refine tg 6 46 (.iface 120 (.slice (some ⟨g,0,none⟩) l.length l.length)) hS0 ?_;refine tg 7 47 (.pointer (some ⟨fr,0,none⟩)) hS0 ?_;refine tg 8 48 (.pointer (some ⟨X,7,none⟩)) hS0 ?_;refine tg 9 49 (.slice (some ⟨b,off,none⟩) ln ca) hS0 ?_;refine tg 10 50 (.pointer (some ⟨b,off,none⟩)) hS0 ?_;refine tg 11 51 (.agg #[x.kind,x.pos,x.num,x.name,.slice Ax x.args.length cx]) hS0 ?_;refine tg 13 53 (.iface 120 (.slice (some ⟨g,0,none⟩) l.length l.length)) hS0 ?_;refine tg 14 54 (.iface 120 (.slice (some ⟨g,0,none⟩) l.length l.length)) hS0 ?_;try simp only[Act.put,pA,pB,pC]
  refine wone 12 fun K hK=>?_;go_simp;refine (HC.o).mono ?_;intro e v hpost;cases hq:tVal k F env m x
  case bad=>exact uXU
  case trap=>exact uQw
  rename_i q;rw[hq] at hpost;obtain⟨iv,m1⟩:=q;obtain⟨rfl,bs1,hok⟩:=hpost;have HOK2:=hI (HOKD.o.trans hok);have HEV2:=hI (HEVD.o.step hok);obtain⟨a2,g2,hma2,hbg2,hl2⟩:=HEV2.o.nm.look HN1.o HE.o;obtain⟨a3,hma3,ho3,hlen3⟩:=hok.shp cc _ HMA.o;rw[hma2] at hma3;cases hma3;have hg3:=hok.pre.at_ HBG.o;rw[hbg2] at hg3;cases hg3;obtain⟨g',hbg',_,hg2,ha2⟩:=HEV2.o.mem.at_ cc a2 hma2;rw[hbg2] at hbg';cases hbg';obtain⟨o2,l2⟩:=a2;simp only at ho3 hlen3;subst ho3;unfold zVt at hl2;unfold zmX at hg2;simp only[Bool.false_eq_true,if_false] at hl2;simp only[Bool.false_eq_true,if_false] at hg2;rw[hlen3] at hl2;obtain⟨m3,hm3⟩:∃m3,zbN m1 cc ((0:Nat):Int) iv=.ok m3:=by unfold zbN;rw[hma2];simp only;rw[if_pos ⟨by omega,by rw[Int.toNat_natCast];exact ha2.pos⟩];exact⟨_,rfl⟩
  have HPUT:=hI (HEV.o.putS HOK2.o hma2 hbg2 (i:=0) ha2.pos hm3);have HPUU:=hI (HEV2.o.putS (HEV2.o.ok (Below.refl _ v)) hma2 hbg2 (i:=0) ha2.pos hm3);simp only[Bool.false_eq_true,if_false] at HPUT;simp only[Bool.false_eq_true,if_false] at HPUU;have HGS:Jd (X∉bs1∧b∉bs1∧fr∉bs1):=hI ⟨fun h9=>(hok.new _ h9).elim (fun h8=>HNS.o h8) (fun h8=>by have:=HXLT.o;omega),fun h9=>(hok.new _ h9).elim (fun h8=>HNB.o.1 h8) (fun h8=>by have:=HXLT.o;omega),fun h9=>(hok.new _ h9).elim (fun h8=>HNB.o.2 h8) (fun h8=>by have:=HXLT.o;omega)⟩;obtain⟨a4,g4,hma4,hbg4,hl4⟩:=(HEV2.o.step HPUU.o).nm.look HN1.o HE.o;obtain⟨a5,hma5,ho5,hlen5⟩:=HPUU.o.shp cc _ hma2;rw[hma4] at hma5;cases hma5;have hg5:=HPUU.o.pre.at_ hbg2;rw[hbg4] at hg5;cases hg5;obtain⟨o4,l4⟩:=a4;simp only at ho5 hlen5;subst ho5;unfold zVt at hl4;simp only[Bool.false_eq_true,if_false] at hl4;rw[hlen5,hlen3] at hl4;have HRT:Jd (r=.ok (0,env,m3)):=hI (by rw[←HR.o,hq];show (zbN m1 cc 0 iv).bind _=_;rw[show (0:Int)=((0:Nat):Int) from rfl,hm3];rfl)
  have HSTO:=hI (zRd g 0 l2 ha2.pos iv v hg2);rw[hlen3,show ((0:Nat):Int)=0 from rfl] at HSTO;have hS1:(fun w'=>w'.cell? ⟨fr,1,none⟩=some (.map (some nb))∧w'.cell? ⟨X,3,none⟩=some (.string name)∧w'.cell? ⟨X,7,none⟩=some (.slice (some ⟨b,off,none⟩) ln ca)∧w'.cell? ⟨b,off,none⟩=some (Value.int .i64 x.kind)∧w'.cell? ⟨b,off+1,none⟩=some (Value.int .i64 x.pos)∧w'.cell? ⟨b,off+2,none⟩=some (Value.int .i64 x.num)∧w'.cell? ⟨b,off+3,none⟩=some (Value.string x.name)∧w'.cell? ⟨b,off+4,none⟩=some (Value.slice Ax x.args.length cx)∧(Instr.lookup 80 (.map (some nb)) (.string name) false).run Tryz.prog w'=.ok (.iface 120 (.slice (some ⟨g,0,none⟩) l.length l.length)) w') v:=by exact uP8
  exact uQX
theorem z6I {t:TTy} (h0:0≤t.len) (h1:t.len≤1048576) (h2:t.elem=2→0<t.len):ClOk (z25 t):=by
 unfold z25;by_cases h:t.elem=2
 · have h3:=h2 h;rw[if_pos h];exact⟨by simp only[List.length_replicate];omega,by simp only[List.length_replicate];omega,fun _ v hv=>by rw[List.mem_replicate] at hv;omega⟩
 rw[if_neg h];exact⟨by simp only[List.length_replicate];omega,by simp only[List.length_replicate];omega,fun h=>by cases h⟩
theorem zyp {k:Nat}:∀B B0 fr fb nb Nf n d d' L F env bs m kind pos most name te tl tb args body els has va vb ve W,kind=2→EvAt W B B0 fr fb nb Nf n L F env bs m→stSm (.mk kind pos most name ⟨te,tl,tb⟩ args body els has)→zj (zO d) W B va args→zj (zM d) W B vb body→zj (zM d) W B ve els→stIn L d' (.mk kind pos most name ⟨te,tl,tb⟩ args body els has)→z8H (k+1) F env m (.mk kind pos most name ⟨te,tl,tb⟩ args body els has)≠.bad →
  Calls Tryz.prog 47 #[.pointer (some ⟨fr,0,none⟩),.agg #[kind,pos,most,name,te,tl,tb,va,vb,ve,has]] W (zse W B0 nb L bs m (z8H (k+1) F env m (.mk kind pos most name ⟨te,tl,tb⟩ args body els has))):=by
 intro B B0 fr fb nb Nf n d d' L F env bs m kind pos most name te tl tb args body els has va vb ve W hk hev hsm hxa hxb hxe hin hbad;subst hk;obtain⟨hn1,hn2,hn3,hn4⟩:=hsm;simp only[TSt.name,TSt.args,TSt.body,TSt.els] at hn1 hn2 hn3 hn4;obtain⟨A,ca,rfl,_⟩:=hxa.shape;obtain⟨Ab,cb,rfl,_⟩:=hxb.shape;obtain⟨Ae,ce,rfl,_⟩:=hxe.shape;have hbX:=bnew W (.cells #[.int .i64 2,pos,most,name,te,tl,tb,.slice A args.length ca,.slice Ab body.length cb,.slice Ae els.length ce,has] 126);have HXX:=hI (heap_alloc_new W (.cells #[.int .i64 2,pos,most,name,te,tl,tb,.slice A args.length ca,.slice Ab body.length cb,.slice Ae els.length ce,has] 126));have HOK1:=hI (hev.ok hbX);have HEV1:=hI (hev.step (hev.ok hbX));have hmo:=hbX.mono (Nat.le_trans hev.le.1 hev.le.2);have HXa:=hI (hxa.below hmo (Nat.le_refl _));have HXb:=hI (hxb.below hmo (Nat.le_refl _));have HXe:=hI (hxe.below hmo (Nat.le_refl _));have HEV:=hI hev;have HNS:Jd (W.heap.size∉bs):=hI (fun h9=>by have:=(hev.mem.mem_le _ h9).2;omega);have HBLW:=hI (fun (v:World) (h:Below B0 (W.alloc (.cells #[.int .i64 2,pos,most,name,te,tl,tb,.slice A args.length ca,.slice Ab body.length cb,.slice Ae els.length ce,has] 126)) v)=>(hbX.mono hev.le.2).trans h);have HN1:=hI hn1;unfold z8H at hbad ⊢;rw[if_neg (by decide),if_pos rfl] at hbad ⊢;by_cases hty:0≤tl∧tl≤16384∧(te=2→0<tl)
 · rw[if_pos hty] at hbad ⊢
   have HIN:Jd (name∈L):=hI (by
    cases d' with
    | zero=>exact hin.elim
    | succ d'=>exact hin.1 (Or.inr (Or.inl rfl)))
   have HNB:Jd (fr∉bs):=hI (fun h9=>(hev.far _ h9).1 rfl);have HFR:=hI (fun w=>zgc ⟨te,tl,tb⟩ hty.1 (Int.le_trans hty.2.1 (by decide)) w);have HCL:Jd (ClOk (z25 ⟨te,tl,tb⟩)):=hI (z6I hty.1 (Int.le_trans hty.2.1 (by decide)) hty.2.2);generalize z25 ⟨te,tl,tb⟩=ac at *;generalize hPO:zse W B0 nb L bs m (.ok ((0:Int),zSy env name m.length,m++[ac]))=PO;have HPO:=hI hPO;clear hev hxa hxb hxe hin hbX hPO hn1 hn2 hn3 hn4 hmo hty hbad;obtain⟨c3,_⟩:=zz HXX.o 3;obtain⟨c4,_⟩:=zz HXX.o 4;obtain⟨c5,_⟩:=zz HXX.o 5;obtain⟨c6,_⟩:=zz HXX.o 6;go_enter Tryz.func47,Tryz.ntmps47;go_upto_region 5 with (fail);generalize W.alloc _=v1 at *;have HSIZ:Jd (W.heap.size≤v1.heap.size):=hI HOK1.o.kp.siz;obtain⟨X,hXe⟩:∃X,W.heap.size=X:=⟨_,rfl⟩
   have HXE:=hI hXe;rw[hXe] at HXX HNS c3 c4 c5 c6 ⊢;clear hXe;have hf1:=(zz HEV1.o.frm 1).1;have HB1D:=hI (bdr (Below.refl v1.heap.size v1));have hS0:(fun w'=>w'.cell? ⟨fr,1,none⟩=some (.map (some nb))∧w'.cell? ⟨X,3,none⟩=some (.string name)∧w'.cell? ⟨X,4,none⟩=some (.int .i64 te)∧w'.cell? ⟨X,5,none⟩=some (.int .i64 tl)∧w'.cell? ⟨X,6,none⟩=some (.int .i64 tb)) v1.drew:=⟨hf1,c3,c4,c5,c6⟩
   have HOKD:=hI (HOK1.o.trans (HEV1.o.ok HB1D.o));have HEVD:=hI (HEV1.o.step (HEV1.o.ok HB1D.o));have HDS:Jd (W.heap.size≤v1.drew.heap.size):=hI HSIZ.o;refine wL (fun w'=>w'.cell? ⟨fr,1,none⟩=some (.map (some nb))∧w'.cell? ⟨X,3,none⟩=some (.string name)∧w'.cell? ⟨X,4,none⟩=some (.int .i64 te)∧w'.cell? ⟨X,5,none⟩=some (.int .i64 tl)∧w'.cell? ⟨X,6,none⟩=some (.int .i64 tb)) 9 ?_;clear hf1 c3 c4 c5 c6;generalize v1.drew=wd at *;refine tg 0 29 (.pointer (some ⟨fr,0,none⟩)) hS0 ?_;refine tg 1 30 (.pointer (some ⟨fr,0,none⟩)) hS0 ?_;refine tg 2 31 (.pointer (some ⟨fr,1,none⟩)) hS0 ?_;refine tg 3 32 (.map (some nb)) hS0 ?_;refine tg 4 33 (.pointer (some ⟨X,3,none⟩)) hS0 ?_;refine tg 5 34 (.string name) hS0 ?_;refine tg 6 35 (.pointer (some ⟨X,4,none⟩)) hS0 ?_;refine tg 7 36 (.agg #[te,tl,tb]) hS0 ?_;try simp only[Act.put,pA,pB,pC]
   refine wone 8 fun K hK=>?_;go_simp;refine (HFR.o wd).mono ?_;rintro e v ⟨g,rfl,hg1,hg2,hg3⟩;have HOK2:=hI (HOKD.o.trans (HEVD.o.ok hg3));have HEV2:=hI (HEVD.o.step (HEVD.o.ok hg3));have hS1:(fun w'=>w'.cell? ⟨fr,1,none⟩=some (.map (some nb))∧w'.cell? ⟨X,3,none⟩=some (.string name)∧w'.cell? ⟨X,4,none⟩=some (.int .i64 te)∧w'.cell? ⟨X,5,none⟩=some (.int .i64 tl)∧w'.cell? ⟨X,6,none⟩=some (.int .i64 tb)) v:=by obtain⟨u1,u2,z4,z5,z6⟩:=hS0;exact⟨zv (Kp.of_below (S:=fun _=>False) hg3) (fun h=>h) u1,zv (Kp.of_below (S:=fun _=>False) hg3) (fun h=>h) u2,zv (Kp.of_below (S:=fun _=>False) hg3) (fun h=>h) z4,zv (Kp.of_below (S:=fun _=>False) hg3) (fun h=>h) z5,zv (Kp.of_below (S:=fun _=>False) hg3) (fun h=>h) z6⟩
   have HGF:Jd (g∉bs∧W.heap.size≤g):=hI ⟨fun h9=>by have:=(HEVD.o.mem.mem_le _ h9).2;omega,Nat.le_trans HDS.o hg1⟩;obtain⟨wp,hput,hgr,hnm⟩:=HEV2.o.nm.put HEV2.o.lim HN1.o HIN.o ac g;have HEND:=hI (HEV.o.letS HOK2.o (a:=ac) HCL.o HGF.o.1 HGF.o.2 hg2 hgr hnm);have HPUT:=hI hput;generalize zVt ac g=vc at *;clear hg1 hg2 hg3 hgr hnm hput;refine hK.o _ _ (fun _=>hS1) ?_;clear hK hS0;try simp only[Act.put,pA,pB,pC]
   refine wone 9 fun K hK=>?_;go_simp;exact uOC
 rw[if_neg hty] at hbad;exact absurd rfl hbad
section
variable {p:Prop}
theorem uRf (h:p:=by
 go_wp2_with fail;refine⟨rfl,?_⟩;rw[←HPO.o,HRT.o];exact⟨rfl,HB3.o⟩):p:=h
end
theorem zhg {k:Nat} (hw:zOI k):∀B B0 fr fb nb Nf n d d' L F env bs m kind pos most name te tl tb args body els has va vb ve W,kind=6→EvAt W B B0 fr fb nb Nf n L F env bs m→stSm (.mk kind pos most name ⟨te,tl,tb⟩ args body els has)→zj (zO d) W B va args→zj (zM d) W B vb body→zj (zM d) W B ve els→stIn L d' (.mk kind pos most name ⟨te,tl,tb⟩ args body els has)→z8H (k+1) F env m (.mk kind pos most name ⟨te,tl,tb⟩ args body els has)≠.bad →
  Calls Tryz.prog 47 #[.pointer (some ⟨fr,0,none⟩),.agg #[kind,pos,most,name,te,tl,tb,va,vb,ve,has]] W (zse W B0 nb L bs m (z8H (k+1) F env m (.mk kind pos most name ⟨te,tl,tb⟩ args body els has))):=by
 intro B B0 fr fb nb Nf n d d' L F env bs m kind pos most name te tl tb args body els has va vb ve W hk hev hsm hxa hxb hxe hin hbad;subst hk;obtain⟨hn1,hn2,hn3,hn4⟩:=hsm;simp only[TSt.name,TSt.args,TSt.body,TSt.els] at hn1 hn2 hn3 hn4;obtain⟨A,ca,rfl,_⟩:=hxa.shape;obtain⟨Ab,cb,rfl,_⟩:=hxb.shape;obtain⟨Ae,ce,rfl,_⟩:=hxe.shape;have hbX:=bnew W (.cells #[.int .i64 6,pos,most,name,te,tl,tb,.slice A args.length ca,.slice Ab body.length cb,.slice Ae els.length ce,has] 126);have HXX:=hI (heap_alloc_new W (.cells #[.int .i64 6,pos,most,name,te,tl,tb,.slice A args.length ca,.slice Ab body.length cb,.slice Ae els.length ce,has] 126));have HOK1:=hI (hev.ok hbX);have HEV1:=hI (hev.step (hev.ok hbX));have hmo:=hbX.mono (Nat.le_trans hev.le.1 hev.le.2);have HXa:=hI (hxa.below hmo (Nat.le_refl _));have HXb:=hI (hxb.below hmo (Nat.le_refl _));have HXe:=hI (hxe.below hmo (Nat.le_refl _));have HEV:=hI hev;have HNS:Jd (W.heap.size∉bs):=hI (fun h9=>by have:=(hev.mem.mem_le _ h9).2;omega);have HBLW:=hI (fun (v1:World) (h:Below B0 (W.alloc (.cells #[.int .i64 6,pos,most,name,te,tl,tb,.slice A args.length ca,.slice Ab body.length cb,.slice Ae els.length ce,has] 126)) v1)=>(hbX.mono hev.le.2).trans h);have HN1:=hI hn1;unfold z8H at hbad ⊢;rw[if_neg (by decide),if_neg (by decide),if_neg (by decide),if_neg (by decide),if_neg (by decide),if_pos rfl] at hbad ⊢;cases args with
 | nil=>exact absurd rfl hbad
 | cons x xs =>
  simp only at hbad ⊢;obtain⟨d1,b,off,vx,rfl,rfl,hb0,hsx,hxx,x0,x1,x2,x3,x4⟩:=zYA HXa.o 0 (by simp);simp only[List.getD_cons_zero,Nat.zero_mul,Nat.add_zero] at hsx hxx x0 x1 x2 x3 x4;obtain⟨Ax,cx,rfl,_⟩:=hxx.shape;have hbx:tVal k F env m x≠.bad:=fun e=>hbad (by rw[e];rfl);have HC:=hI (hw.val B B0 fr fb nb Nf n d1 L F env bs m x (.slice Ax x.args.length cx) _ HEV1.o hsx hxx hbx);unfold zem at HC
  have HIN:Jd (name∈L):=hI (by
   cases d' with
   | zero=>exact hin.elim
   | succ d'=>exact hin.1 (Or.inr (Or.inr rfl)))
  have HIB:Jd (∀s∈body,stIn L (d'-1) s):=hI (by
   cases d' with
   | zero=>exact hin.elim
   | succ d'=>exact hin.2.1)
  have HBL:Jd (body.length≤65536):=hI hn3;have HBK0:=hI hw.block;have HBK:Jd (∀(env':TEnv) (bs':List Nat) (m':TMem) (W1:World),EvAt W1 B B0 fr fb nb Nf n L F env' bs' m'→zj (zM (d1+1)) W1 B (.slice Ab body.length cb) body→zK k F env' m' body≠.bad→Calls Tryz.prog 24 #[.pointer (some ⟨fr,0,none⟩),.slice Ab body.length cb] W1 (zse W1 B0 nb L bs' m' (zK k F env' m' body))):=hI (fun env' bs' m' W1 h1 h2 h4=>HBK0.o B B0 fr fb nb Nf n (d1+1) (d'-1) L F env' bs' m' body _ W1 h1 h2 HIB.o HBL.o h4);obtain⟨r,hr⟩:∃r,((tVal k F env m x).bind fun r=>if 65536<most then .bad else if most<r.1 then .trap else (zRD name (fun env m=>zK k F env m body) r.1.toNat 0 env r.2).bind fun q=>.ok ((0:Int),q))=r:=⟨_,rfl⟩
  rw[hr] at hbad ⊢;have HR:=hI hr;have HBAD:=hI hbad;generalize hPO:zse W B0 nb L bs m r=PO;have HPO:=hI hPO;have HXL:Jd (W.heap.size<(W.alloc (.cells #[.int .i64 6,pos,most,name,te,tl,tb,.slice (some ⟨b,off,none⟩) (x::xs).length ca,.slice Ab body.length cb,.slice Ae els.length ce,has] 126)).heap.size∧nb<W.heap.size∧fr∉bs):=hI ⟨by simp,hev.nf.2.2.2,fun h9=>(hev.far _ h9).1 rfl⟩;have k1n:0<(x::xs).length:=by rw[List.length_cons];omega
  have k1:(0:Int)<(((x::xs).length:Nat):Int):=by rw[List.length_cons];omega
  generalize (x::xs).length=ln at *;generalize hbl:body.length=bl at *;have HBLE:=hI hbl;clear hev hxa hxb hxe hin hbX hPO hr hw hn1 hn2 hn3 hn4 hsx hxx hbx hmo hb0 hbad HBK0 hbl;obtain⟨c2,_⟩:=zz HXX.o 2;obtain⟨c3,_⟩:=zz HXX.o 3;obtain⟨c7,_⟩:=zz HXX.o 7;obtain⟨c8,_⟩:=zz HXX.o 8;go_enter Tryz.func47,Tryz.ntmps47;go_upto_region 17 with (fail);generalize W.alloc _=v3 at *;obtain⟨X,hXe⟩:∃X,W.heap.size=X:=⟨_,rfl⟩
  have HXE:=hI hXe;rw[hXe] at HXX HNS HXL c2 c3 c7 c8 ⊢;clear hXe;go_upto_region 17 with (fail);go_wp2_with fail;refine (HC.o).mono ?_;intro e v1 hpost;cases hq:tVal k F env m x
  case bad=>exact uXU
  case trap=>rw[hq] at hpost;obtain⟨rfl,hb2⟩:=hpost;have HRT:Jd (r=.trap):=hI (by rw[←HR.o,hq];rfl);have HB2:=hI (HBLW.o v1 hb2);clear hq hb2 c2 c3 c7 c8 x0 x1 x2 x3 x4;exact uKA
  rename_i q;rw[hq] at hpost;obtain⟨iv,m1⟩:=q;obtain⟨rfl,bs1,hok⟩:=hpost;have HOK2:=hI (HEV1.o.toS hok);have HB02:=hI (HBLW.o v1 (hok.below HEV1.o.mem HEV1.o.le.2));replace c2:=zv hok.kp HNS.o c2;have hR1:=HR.o;rw[hq] at hR1;replace hR1:(if 65536<most then TR.bad else if most<iv then .trap else (zRD name (fun env m=>zK k F env m body) iv.toNat 0 env m1).bind fun q=>.ok ((0:Int),q))=r:=hR1;by_cases hm6:65536<most
  · rw[if_pos hm6] at hR1;exact absurd hR1.symm HBAD.o
  rw[if_neg hm6] at hR1;clear hok hq x0 x1 x2 x3 x4 HR;simp only;by_cases hmi:most<iv
  · rw[if_pos hmi] at hR1;have HRT:Jd (r=.trap):=hI hR1.symm;clear hR1 hm6 c3 c7 c8;go_wp2_with fail;refine⟨rfl,?_⟩;rw[←HPO.o,HRT.o];exact⟨rfl,HB02.o⟩
  rw[if_neg hmi] at hR1;obtain⟨N,hN⟩:∃N,iv.toNat=N:=⟨_,rfl⟩
  rw[hN] at hR1;have HR0:Jd (((zRD name (fun env m=>zK k F env m body) (N-0) 0 env m1).bind fun q=>.ok ((0:Int),q))=r):=hI hR1;have HNI:Jd (iv.toNat=N∧iv≤65536):=hI ⟨hN,by omega⟩;clear hR1 hm6 hN c3 c7 c8;go_wp2_with fail;go_loopw [110] (fun vi wr=>∃(i:Nat) (env':TEnv) (bs':List Nat) (m':TMem),i≤N∧vi=.int .i64 i∧zNS v3 B0 nb L bs m wr env' bs' m'∧Jd (((zRD name (fun env m=>zK k F env m body) (N-i) i env' m').bind fun q=>.ok ((0:Int),q))=r)) (fun vi _=>N-(intOf vi).toNat)
  case atStart=>exact⟨0,env,bs1,m1,Nat.zero_le _,rfl,HOK2.o,HR0⟩
  case round =>
   obtain⟨i,env',bs',m',hi,rfl,hok,HR⟩:=hrel;have HOK:=hI hok;have HEr:=hI (HEV1.o.stepS hok);have HB0r:=hI (HEV1.o.belowS hok);have HXr:Jd (∀j v,v3.cell? ⟨X,j,none⟩=some v→wr.cell? ⟨X,j,none⟩=some v):=hI (fun j v h=>zv hok.kp (fun h9=>h9.elim (fun h8=>HNS.o h8) (fun h8=>by have:=HXL.o.2.1;omega)) h);clear hok;by_cases hlt:i<N
   · have k0:(0:Int)≤(i:Int):=by omega
     have k1:(i:Int)<iv:=by have:=HNI.o;omega
     have k2:(i:Int)<65536:=by have:=HNI.o;omega
     have hR:=HR.o;rw[show N-i=(N-(i+1))+1 by omega] at hR;unfold zRD at hR;have hbd:zK k F (zSy env' name m'.length) (m'++[⟨false,[(i:Int)]⟩]) body≠.bad:=fun e=>HBAD.o (by rw[←hR,e];rfl)
     have HBD:=hI hbd;have HR1:=hI hR;clear hR hbd HR;have hf1:=(zz HEr.o.frm 1).1;obtain⟨c3,_⟩:=zz HXX.o 3;replace c3:=HXr.o 3 _ c3;go_upto_region 23 with (fail);have hS0:(fun w'=>w'.cell? ⟨fr,1,none⟩=some (.map (some nb))∧w'.cell? ⟨X,3,none⟩=some (.string name)) wr.drew:=⟨hf1,c3⟩
     have HOKD:=hI (HEr.o.ok (bdr (Below.refl wr.heap.size wr)));have HEVD:=hI (HEr.o.step (HEr.o.ok (bdr (Below.refl wr.heap.size wr))));have HDS:Jd (wr.heap.size≤wr.drew.heap.size):=hI (Nat.le_refl _);refine wL (fun w'=>w'.cell? ⟨fr,1,none⟩=some (.map (some nb))∧w'.cell? ⟨X,3,none⟩=some (.string name)) 9 ?_;clear hf1 c3;generalize wr.drew=wd at *;refine tg 0 113 (.pointer (some ⟨fr,0,none⟩)) hS0 ?_;refine tg 1 114 (.pointer (some ⟨fr,0,none⟩)) hS0 ?_;refine tg 2 115 (.pointer (some ⟨fr,1,none⟩)) hS0 ?_;refine tg 3 116 (.map (some nb)) hS0 ?_;refine tg 4 117 (.pointer (some ⟨X,3,none⟩)) hS0 ?_;refine tg 5 118 (.string name) hS0 ?_;refine tg 6 119 (.int .i64 i) hS0 ?_;try simp only[Act.put,pA,pB,pC]
     have hbn:=bnew wd (.cells #[i] 3);have HOKN:=hI (HOKD.o.trans (HEVD.o.ok hbn));have HEVN:=hI (HEVD.o.step (HEVD.o.ok hbn));have HGN:=hI (heap_alloc_new wd (.cells #[i] 3));have HGF:Jd (wd.heap.size∉bs'∧wr.heap.size≤wd.heap.size):=hI ⟨fun h9=>by have:=(HEVD.o.mem.mem_le _ h9).2;omega,HDS.o⟩;have hS1:(fun w'=>w'.cell? ⟨fr,1,none⟩=some (.map (some nb))∧w'.cell? ⟨X,3,none⟩=some (.string name)) (wd.alloc (.cells #[i] 3)):=by obtain⟨u1,u2⟩:=hS0;exact⟨zv (Kp.of_below (S:=fun _=>False) hbn) (fun h=>h) u1,zv (Kp.of_below (S:=fun _=>False) hbn) (fun h=>h) u2⟩
     generalize hwn:wd.alloc _=wn at *;have HWN:=hI hwn;obtain⟨wp,hput,hgr,hnm⟩:=HEVN.o.nm.put HEVN.o.lim HN1.o HIN.o ⟨false,[(i:Int)]⟩ wd.heap.size;unfold zVt at hput;simp only[Bool.false_eq_true,if_false,List.length_cons,List.length_nil,Nat.zero_add] at hput;have HLET:=hI (HEr.o.letS HOKN.o (a:=⟨false,[(i:Int)]⟩) ⟨by simp,by simp,fun h=>by cases h⟩ HGF.o.1 HGF.o.2 HGN.o hgr hnm);have HEP:=hI (HEr.o.stepS HLET.o);have HC2:=hI (HBK.o _ _ _ wp HEP.o (HXb.o.below ((HB0r.o.trans (HEr.o.belowS HLET.o)).mono HEV1.o.le.1) (Nat.le_refl _)) HBD.o);have HPUT:=hI hput;have c8:wp.cell? ⟨X,8,none⟩=some (.slice Ab bl cb):=by obtain⟨c8,_⟩:=zz HXX.o 8;replace c8:=HXr.o 8 _ c8;exact zv HLET.o.kp (fun h9=>h9.elim (fun h8=>(HOK.o.new _ h8).elim (fun h7=>HNS.o h7) (fun h7=>by have:=HXL.o.1;omega)) (fun h8=>by have:=HXL.o.2.1;omega)) c8
     clear hbn hgr hnm hput hwn;refine wone 7 fun K hK=>?_;go_simp;try rw[HWN.o]
     refine hK.o _ _ (fun _=>hS1) ?_;clear hK;try simp only[Act.put,pA,pB,pC]
     refine wone 8 fun K hK=>?_;go_simp;refine hK.o _ _ (fun _=>hS1) ?_;clear hK;try simp only[Act.put,pA,pB,pC]
     refine wone 9 fun K hK=>?_;go_simp;rw[HPUT.o];go_simp;refine hK.o _ _ (fun h=>absurd rfl h) ?_;clear hK;try simp only[Act.put,pA,pB,pC]
     refine wD ?_ _;clear hS0 hS1;go_wp2_with fail;try rw[HBLE.o]
     refine (HC2.o).mono ?_;intro e v1 hpost;cases hq2:zK k F (zSy env' name m'.length) (m'++[⟨false,[(i:Int)]⟩]) body
     case bad=>exact absurd hq2 HBD.o
     case trap=>rw[hq2] at hpost;obtain⟨rfl,hb3⟩:=hpost;have HRT:Jd (r=.trap):=hI (by rw[←HR1.o,hq2];rfl);have HB3:=hI (HBLW.o v1 ((HB0r.o.trans (HEr.o.belowS HLET.o)).trans hb3));clear hq2 hb3 c8;exact uRf
     rename_i q2;rw[hq2] at hpost;obtain⟨v2,env2,m2⟩:=q2;obtain⟨rfl,bs2,hok2⟩:=hpost;have HOK3:=hI ((HOK.o.trans HLET.o).trans hok2);have HR2:Jd (((zRD name (fun env m=>zK k F env m body) (N-(i+1)) (i+1) env2 m2).bind fun q=>.ok ((0:Int),q))=r):=hI (by rw[←HR1.o,hq2];rfl);clear hq2 hok2 c8;simp only;go_wp2_with fail;go_roundw
     case rel=>exact⟨i+1,env2,bs2,m2,by omega,by go_num,HOK3.o,HR2⟩
     case measure=>simp[intOf];omega
   obtain rfl:i=N:=by omega
   have k1:¬((i:Int)<iv):=by have:=HNI.o;omega
   have k1':iv≤(i:Int):=by omega
   have hR:=HR.o;rw[Nat.sub_self] at hR;have HRE:Jd (r=.ok (0,env',m')):=hI hR.symm;clear hR HR;go_wp2_with fail;rw[←HPO.o,HRE.o];exact⟨rfl,bs',(HEV.o.toS HOK1.o).trans HOK.o⟩
theorem zVf {k:Nat} (hw:zOI k):∀B B0 fr fb nb Nf n d d' L F env bs m s va vb ve W,EvAt W B B0 fr fb nb Nf n L F env bs m→stSm s→zj (zO d) W B va s.args→zj (zM d) W B vb s.body→zj (zM d) W B ve s.els→stIn L d' s→z8H (k+1) F env m s≠.bad →
  Calls Tryz.prog 47 #[.pointer (some ⟨fr,0,none⟩),.agg (zTK s va vb ve).toArray] W (zse W B0 nb L bs m (z8H (k+1) F env m s)):=by
 intro B B0 fr fb nb Nf n d d' L F env bs m s va vb ve W hev hsm hxa hxb hxe hin hbad;obtain⟨kind,pos,most,name,⟨te,tl,tb⟩,args,body,els,has⟩:=s;unfold zTK;by_cases h1:kind=1
 · exact zrv hw _ _ _ _ _ _ _ _ _ _ _ _ _ _ _ _ _ _ _ _ _ _ _ _ _ _ _ _ _ h1 hev hsm hxa hxb hxe hin hbad
 by_cases h2:kind=2
 · exact zyp _ _ _ _ _ _ _ _ _ _ _ _ _ _ _ _ _ _ _ _ _ _ _ _ _ _ _ _ _ h2 hev hsm hxa hxb hxe hin hbad
 by_cases h3:kind=3
 · exact zWY hw _ _ _ _ _ _ _ _ _ _ _ _ _ _ _ _ _ _ _ _ _ _ _ _ _ _ _ _ _ h3 hev hsm hxa hxb hxe hin hbad
 by_cases h4:kind=4
 · exact zHE hw _ _ _ _ _ _ _ _ _ _ _ _ _ _ _ _ _ _ _ _ _ _ _ _ _ _ _ _ _ h4 hev hsm hxa hxb hxe hin hbad
 by_cases h5:kind=5
 · exact z7o hw _ _ _ _ _ _ _ _ _ _ _ _ _ _ _ _ _ _ _ _ _ _ _ _ _ _ _ _ _ h5 hev hsm hxa hxb hxe hin hbad
 by_cases h6:kind=6
 · exact zhg hw _ _ _ _ _ _ _ _ _ _ _ _ _ _ _ _ _ _ _ _ _ _ _ _ _ _ _ _ _ h6 hev hsm hxa hxb hxe hin hbad
 by_cases h7:kind=7
 · exact zUN hw _ _ _ _ _ _ _ _ _ _ _ _ _ _ _ _ _ _ _ _ _ _ _ _ _ _ _ _ _ h7 hev hsm hxa hxb hxe hin hbad
 by_cases h8:kind=8
 · exact zqx hw _ _ _ _ _ _ _ _ _ _ _ _ _ _ _ _ _ _ _ _ _ _ _ _ _ _ _ _ _ h8 hev hsm hxa hxb hxe hin hbad
 have h9:¬(1≤kind∧kind≤8):=by omega
 exact zGk _ _ _ _ _ _ _ _ _ _ _ _ _ _ _ _ _ _ _ _ _ _ _ _ _ _ _ _ _ h9 hev hsm hxa hxb hxe hin hbad
end Go.Proofs.YtfibdoehmndinaaGreatDoor
