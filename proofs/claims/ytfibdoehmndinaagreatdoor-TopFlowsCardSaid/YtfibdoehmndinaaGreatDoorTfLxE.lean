/- Parts of a proof. No condition but those that each theorem names. -/
import Derived.Test.YtfibdoehmndinaaGreatDoorTfEvU
import Derived.Test.YtfibdoehmndinaaGreatDoorTfG0e20
namespace Go.Proofs.YtfibdoehmndinaaGreatDoor
open Go.RowKit
set_option linter.unusedVariables false
set_option maxRecDepth 100000
set_option maxHeartbeats 1000000
section
variable {v:Value}
section
variable {p:Prop}
theorem uOF (h:p:=by
 have HRUN:=hI hrun;have HL4:=hI hl4;have HT4:=hI ht4;have HB4:=hI hb4;have HOW:=hI hown;obtain⟨A4,c4,hv4⟩:=zfk hown;subst hv4;clear hrun hown hg hob hl4 ht4 hb4;refine wone 6 fun K hK=>?_;go_simp;refine hK.o _ _ (fun _=>⟨HKN.o.lx.blk,HKN.o.tb⟩) ?_;clear hK;try simp only[Act.put,pA,pB,pC]
 refine zOF (i:=7) (by kernel_rfl) rfl ?_;intro K hK;refine z50 rfl (.tmp 124) (.tmp 126) 46 rfl HRUN.o rfl rfl ?_;refine hK.o _ _ (fun _=>⟨HL4.o.blk,HT4.o⟩) ?_;clear hK;try simp only[Act.put,pA,pB,pC]
 refine wone 8 fun K hK=>?_;go_simp;refine hK.o _ _ (fun _=>⟨HL4.o.blk,HT4.o⟩) ?_;clear hK;refine tg 9 129 (.pointer (some ⟨q,4,none⟩)) ⟨HL4.o.blk,HT4.o⟩ ?_;try simp only[Act.put,pA,pB,pC]
 obtain⟨l4,lf4⟩:=zz HL4.o.blk 4;refine wone 10 fun K hK=>?_;go_simp;refine hK.o _ _ (fun h=>absurd rfl h) ?_;clear hK;try simp only[Act.put,pA,pB,pC]
 refine wD ?_ _;clear l4 lf4;go_wp2_with fail;rw[←HPO.o,←HR.o];exact⟨rfl,_,HL4.o.putV _,by rw[List.length_append,List.length_singleton,List.flatMap_append,List.flatMap_singleton];exact z7G HOW.o ⟨q,4,none⟩ _ (by show q<q+1;omega),HB4.o.setCell (p:=⟨q,4,none⟩) (Nat.le_refl _) _⟩):p:=h
theorem uCO (h:p:=by
 intro wz hSz;obtain⟨c1,cf1⟩:=zz (hSz.1) 1;go_simp):p:=h
theorem uVq (h:p:=by
 go_wp2_with fail;rw[←HPO.o,←HR.o];exact⟨rfl,HK.o.lx,HK.o.bel⟩):p:=h
theorem uB4 (h:p:=by
 intro wz hSz;obtain⟨c4,cf4⟩:=zz (hSz.1) 4;go_simp):p:=h
end
theorem zcr (s:ByteArray):∀(f i:Nat),i≤s.size→i≤zaO s f i∧zaO s f i≤s.size
 | 0,i,h=>⟨Nat.le_refl _,h⟩
 | f+1,i,h=>by
  unfold zaO
  split
  · split
    · have:=zcr s f (i+1) (by omega);omega
    exact⟨Nat.le_refl _,h⟩
  · exact⟨Nat.le_refl _,h⟩
theorem zjY (s:ByteArray) (i:Nat) (h:i<s.size) (hb:(zPi (bAt s i) || zDE (bAt s i))=true):i<zaO s s.size i:=by
 cases hs:s.size
 case zero=>omega
 rename_i f;unfold zaO;rw[if_pos h,if_pos hb];have:=(zcr s f (i+1) (by omega)).1;omega
theorem z4c {w w':World} {B t n m:Nat} {xs:List Value} (h:w.ownsRow B t m v n xs) {row:Option Nat} (hg:w.grownBy w' row) (hr:∀g,v.ownBlock=some g→row≠some g):w'.ownsRow B t m v n xs:=by
 refine h.kept hg ?_;cases hv:v.ownBlock
 case none=>exact .inl rfl
 rename_i g;exact .inr (fun e=>hr g hv e.symm)
structure TkSt (W w:World) (q mb gb T:Nat) (s:ByteArray) (i:Nat) (v:Value) (toks:List TTk) (cs:List Value):Prop where
 lx:LxAt w q mb gb s i v
 tb:w.heap[T]? = some (.cells cs.toArray 56 (0,0))
 row:w.ownsRow (q+1) 56 4 v toks.length (toks.flatMap zL)
 far:∀g,v.ownBlock=some g→g<T
 qT:q<T
 bel:Below q W w
section
variable {W w w':World} {q mb gb T i:Nat} {s:ByteArray} {v:Value} {toks:List TTk} {cs:List Value}
theorem TkSt.below (h:TkSt W w q mb gb T s i v toks cs) (hb:Below w.heap.size w w'):TkSt W w' q mb gb T s i v toks cs :=
 ⟨h.lx.below hb,(hb.block T (zh h.tb)).trans h.tb,zVY h.row hb,h.far,h.qT,h.bel.trans (hb.mono (Nat.le_of_lt (Nat.lt_of_lt_of_le h.lx.lt (Nat.le_refl _))))⟩
theorem TkSt.drew (h:TkSt W w q mb gb T s i v toks cs):TkSt W w.drew q mb gb T s i v toks cs:=h.below (bdr (Below.refl _ _))
theorem TkSt.setT (h:TkSt W w q mb gb T s i v toks cs) (k:Nat) (u:Value):TkSt W (w.setCell ⟨T,k,none⟩ u) q mb gb T s i v toks (cs.set k u) :=
 ⟨h.lx.keep (zjV w ⟨T,k,none⟩ u) (fun g e=>by injection e with e;have e2:T=g:=e;have:=h.qT;omega),by have h2:=zPw h.tb k u;rw[List.setIfInBounds_toArray] at h2;exact h2,
  z4c h.row (zjV w ⟨T,k,none⟩ u) (fun g hg e=>by injection e with e;have e2:T=g:=e;have:=h.far g hg;omega),h.far,h.qT,h.bel.setCell (p:=⟨T,k,none⟩) (by have:=h.qT;show q≤T;omega) u⟩
theorem TkSt.put (h:TkSt W w q mb gb T s i v toks cs) {z:Int} {j:Nat} (hz:z=(j:Int)) (hj:j≤s.size):TkSt W (w.setCell ⟨q,1,none⟩ (.int .i64 z)) q mb gb T s j v toks cs :=
 ⟨h.lx.put hz hj,by rw[Below.heap_setCell w ⟨q,1,none⟩ _ T (by have:=h.qT;show T≠q;omega)];exact h.tb,
  z7G h.row ⟨q,1,none⟩ _ (by show q<q+1;omega),h.far,h.qT,h.bel.setCell (p:=⟨q,1,none⟩) (Nat.le_refl _) _⟩
theorem TkSt.grow (h:TkSt W w q mb gb T s i v toks cs) {w1:World} (h1:Below w.heap.size w w1) (hg:w1.grownBy w' v.ownBlock):LxAt w' q mb gb s i v∧w'.heap[T]? = some (.cells cs.toArray 56 (0,0))∧Below q W w':=by
 have h2:=h.below h1;have hq:∀g,v.ownBlock=some g→q<g:=fun g hg=>(h.row.lt g hg).1;exact⟨h2.lx.keep hg hq,(hg.block T (zh h2.tb) (fun e=>by have:=h.far T e.symm;omega)).trans h2.tb,h2.bel.grown hg (Nat.le_of_lt h2.lx.lt) (fun g e=>Nat.le_of_lt (hq g e))⟩
end
def zaY (W:World) (q mb gb:Nat) (s:ByteArray) (i:Nat) (v:Value) (toks:List TTk) (R:Option (TTk×Nat)) (e:Ending) (w':World):Prop:=match R with
 | some r=>e=.returned (.bool true)∧∃v',LxAt w' q mb gb s r.2 v'∧w'.ownsRow (q+1) 56 4 v' (toks++[r.1]).length ((toks++[r.1]).flatMap zL)∧Below q W w'
 | none=>e=.returned (.bool false)∧LxAt w' q mb gb s i v∧Below q W w'
theorem zXx (k:Nat) (h:k<26):0<(zut.getD k ⟨#[]⟩).size:=by
 have:∀k:Fin 26,0<(zut.getD k.1 ⟨#[]⟩).size:=by decide
 exact this ⟨k,h⟩
theorem zYc {W:World} {q mb gb i:Nat} {s:ByteArray} {toks:List TTk} (h:LxAt W q mb gb s i v) (hrow:W.ownsRow (q+1) 56 4 v toks.length (toks.flatMap zL)) (hi:i<s.size) (hn:toks.length≤65536) :
  Calls Tryz.prog 32 #[.pointer (some ⟨q,0,none⟩)] W (zaY W q mb gb s i v toks (ztA s i)):=by
 have HS:=hI h.big;have HI:=hI hi;have HN:=hI hn;have HK:Jd (TkSt W (W.alloc (.cells #[.int .i64 0,i,.int .i64 0,.string ⟨#[]⟩] 56)) q mb gb W.heap.size s i v toks [.int .i64 0,i,.int .i64 0,.string ⟨#[]⟩]):=hI ⟨h.below (bnew W _),heap_alloc_new W _,hrow.alloc _,fun g hg=>(hrow.lt g hg).2,h.lt,(bnew W _).mono (Nat.le_of_lt h.lt)⟩;have HL0:=hI h;obtain⟨R,hR⟩:∃R,ztA s i=R:=⟨_,rfl⟩
 rw[hR];have HR:=hI hR;generalize hPO:zaY W q mb gb s i v toks R=PO;have HPO:=hI hPO;obtain⟨vA,vc,hv⟩:=zfk hrow;obtain⟨l1,lf1⟩:=zz h.blk 1;clear hR hPO h hrow hi hn;have hix:=fun W=>zi7 s i (i:Int) rfl HI.o W;obtain⟨c,hc⟩:∃c,((s.data.toList.getD i 0).toNat)=c:=⟨_,rfl⟩
 have HCB:Jd (bAt s i=c):=hI hc;rw[hc] at hix;clear hc;have HRG:=hI (zcr s s.size i (Nat.le_of_lt HI.o));have HRT:=hI (zjY s i HI.o);have hrt:=HR.o;unfold ztA at hrt;rw[HCB.o] at hrt HRT;replace HR:=hI hrt;clear hrt;go_enter Tryz.func32,Tryz.ntmps32;go_upto_region 2 with (fail);generalize W.alloc _=v1 at *;obtain⟨T,hT⟩:∃T,W.heap.size=T:=⟨_,rfl⟩
 rw[hT] at HK ⊢;clear hT l1 lf1;go_upto_region 2 with (fail);refine wL (fun w'=>w'.heap[q]? = some (.cells #[s,i,.map (some mb),.slice (some ⟨gb,0,none⟩) 26 26,v] 105 (0,0))∧w'.heap[T]? = some (.cells #[.int .i64 0,i,.int .i64 0,.string ⟨#[]⟩] 56 (0,0))) 99 ?_;replace HK:=hI HK.o.drew;generalize hwd:v1.drew=wd at *;clear hwd;refine tg 0 17 (.pointer (some ⟨q,0,none⟩)) ⟨HK.o.lx.blk,HK.o.tb⟩ ?_;refine tg 1 18 (.pointer (some ⟨q,0,none⟩)) ⟨HK.o.lx.blk,HK.o.tb⟩ ?_;refine tg 2 19 (.pointer (some ⟨q,0,none⟩)) ⟨HK.o.lx.blk,HK.o.tb⟩ ?_;refine tk 3 20 (.string s) ?_ ⟨HK.o.lx.blk,HK.o.tb⟩ ?_
 · intro wz hSz;obtain⟨c0,cf0⟩:=zz (hSz.1) 0;go_simp
 refine tg 4 21 (.pointer (some ⟨q,0,none⟩)) ⟨HK.o.lx.blk,HK.o.tb⟩ ?_;refine tg 5 22 (.pointer (some ⟨q,0,none⟩)) ⟨HK.o.lx.blk,HK.o.tb⟩ ?_;refine tg 6 23 (.pointer (some ⟨q,1,none⟩)) ⟨HK.o.lx.blk,HK.o.tb⟩ ?_;refine tk 7 24 (.int .i64 (i:Int)) ?_ ⟨HK.o.lx.blk,HK.o.tb⟩ ?_
 · exact uCO
 refine tg 8 25 (.int .u8 (c:Int)) ⟨HK.o.lx.blk,HK.o.tb⟩ ?_;refine tg 9 4 (.int .u8 (c:Int)) ⟨HK.o.lx.blk,HK.o.tb⟩ ?_;try simp only[Act.put,pA,pB,pC]
 refine wD ?_ _;clear hix;have HCL:=hI (zZP c);cases hl:zPi c
 case true =>
  rw[hl,if_pos rfl] at HR;have HGT:=hI (HRT.o (by rw[hl];rfl));rw[hl] at HCL;clear hl HRT;have HRUN0:=hI (zsx HK.o.lx);generalize zaO s s.size i=m at HR HRG HGT HRUN0;obtain⟨t,ht⟩:∃t:ByteArray,s.extract i m=t:=⟨_,rfl⟩
  have hts:t.size=m-i:=by rw[←ht];exact zR3 s i m HRG.o.1 HRG.o.2
  rw[ht] at HR HRUN0;have HTS:=hI hts;have HMS:=hI HRG.o.2;clear ht hts;go_wp2_with fail;refine (HCL.o wd).mono ?_;rintro e v1 ⟨rfl,hw⟩;subst hw;go_wp2_with fail;refine (HRUN0.o).mono ?_;rintro e v2 ⟨rfl,hb⟩;replace HK:=hI (HK.o.below hb);clear hb;obtain⟨t3,tf3⟩:=zz HK.o.tb 3;go_upto_region 15 with (fail);clear t3 tf3;replace HK:=hI (HK.o.setT 3 (.string t));generalize v2.setCell _ _=v3 at *;obtain⟨t0,tf0⟩:=zz HK.o.tb 0;go_upto_region 16 with (fail);clear t0 tf0;replace HK:=hI (HK.o.setT 0 (.int .i64 1));generalize v3.setCell _ _=v4 at *;obtain⟨f,hmv,hfs⟩:=HK.o.lx.wrd;have HFS:=hI (hfs t);have HMV:=hI hmv;clear hmv hfs;obtain⟨fo,hfo⟩:∃fo,f t=fo:=⟨_,rfl⟩
  rw[hfo] at HFS;have HFO:=hI hfo;clear hfo;go_upto_region 16 with (fail);refine wL (fun w'=>w'.heap[q]? = some (.cells #[s,i,.map (some mb),.slice (some ⟨gb,0,none⟩) 26 26,v] 105 (0,0))∧w'.heap[T]? = some (.cells #[.int .i64 1,i,.int .i64 0,t] 56 (0,0))∧MapV w' mb 19 f) 99 ?_;replace HK:=hI HK.o.drew;replace HMV:=hI (HMV.o.below (bdr (Below.refl _ _)));generalize hwd:v4.drew=wd at *;clear hwd;refine tg 0 71 (.pointer (some ⟨q,0,none⟩)) ⟨HK.o.lx.blk,HK.o.tb,HMV.o⟩ ?_;refine tg 1 72 (.pointer (some ⟨q,0,none⟩)) ⟨HK.o.lx.blk,HK.o.tb,HMV.o⟩ ?_;refine tg 2 73 (.pointer (some ⟨q,2,none⟩)) ⟨HK.o.lx.blk,HK.o.tb,HMV.o⟩ ?_;refine tk 3 74 (.map (some mb)) ?_ ⟨HK.o.lx.blk,HK.o.tb,HMV.o⟩ ?_
  · intro wz hSz;obtain⟨c2,cf2⟩:=zz (hSz.1) 2;go_simp
  refine tg 4 75 (.pointer (some ⟨T,3,none⟩)) ⟨HK.o.lx.blk,HK.o.tb,HMV.o⟩ ?_;refine tk 5 76 (.string t) ?_ ⟨HK.o.lx.blk,HK.o.tb,HMV.o⟩ ?_
  · intro wz hSz;obtain⟨c3,cf3⟩:=zz (hSz.2.1) 3;go_simp
  refine tk 6 77 (.tuple #[fo.getD (.int .i64 0),fo.isSome]) ?_ ⟨HK.o.lx.blk,HK.o.tb,HMV.o⟩ ?_
  · intro wz hSz;have hlk:=MapV.look (T := 100) (E := 3) Tryz.underlying100 hSz.2.2 (z:=.int .i64 0) (by kernel_rfl) t (by have:=HTS.o;have:=HMS.o;have:=HS.o;unfold maxLen;omega);rw[HFO.o] at hlk;go_simp
  refine tg 7 70 (.tuple #[fo.getD (.int .i64 0),fo.isSome]) ⟨HK.o.lx.blk,HK.o.tb,HMV.o⟩ ?_;refine tg 8 78 (fo.getD (.int .i64 0)) ⟨HK.o.lx.blk,HK.o.tb,HMV.o⟩ ?_;refine tg 9 79 (.bool fo.isSome) ⟨HK.o.lx.blk,HK.o.tb,HMV.o⟩ ?_;refine tg 10 5 (fo.getD (.int .i64 0)) ⟨HK.o.lx.blk,HK.o.tb,HMV.o⟩ ?_;refine tg 11 6 (.bool fo.isSome) ⟨HK.o.lx.blk,HK.o.tb,HMV.o⟩ ?_;try simp only[Act.put,pA,pB,pC]
  refine wD ?_ _;clear HMV HFO;obtain⟨ob,hob⟩:∃ob,fo.isSome=ob:=⟨_,rfl⟩
  generalize fo.getD (.int .i64 0)=fu;rw[hob] at HFS ⊢;clear hob;have HTL:Jd ((t.size:Int)=(m:Int)-(i:Int)):=hI (by have:=HTS.o;have:=HGT.o;omega);have HWR:Jd (IntKind.i64.wrap ((i:Int)+((m:Int)-(i:Int)))=(m:Int)):=hI (by have:=HMS.o;have:=HS.o;rw[zF];unfold wrap64;omega);rw[←HFS.o] at HR;clear HFS;cases ob
  case false =>
   simp only[Bool.false_eq_true,if_false] at HR;go_upto_region 19 with (fail);obtain⟨t3,tf3⟩:=zz HK.o.tb 3;have htl:=HTL.o;by_cases h40:40<m-i
   · have k40:(40:Int)<(m:Int)-(i:Int):=by omega
     rw[if_pos h40] at HR;clear h40;exact uVq
   have k40:¬(40:Int)<(m:Int)-(i:Int):=by omega
   rw[if_neg h40] at HR;clear h40;go_upto_region 21 with (fail);clear t3 tf3 htl k40;go_upto_region 21 with (fail);refine wL (fun w'=>w'.heap[q]? = some (.cells #[s,i,.map (some mb),.slice (some ⟨gb,0,none⟩) 26 26,v] 105 (0,0))∧w'.heap[T]? = some (.cells #[.int .i64 1,i,.int .i64 0,t] 56 (0,0))) 10 ?_;replace HK:=hI HK.o.drew;generalize hwd:wd.drew=wd at *;clear hwd;refine tg 0 86 (.pointer (some ⟨q,0,none⟩)) ⟨HK.o.lx.blk,HK.o.tb⟩ ?_;refine tg 1 87 (.pointer (some ⟨q,0,none⟩)) ⟨HK.o.lx.blk,HK.o.tb⟩ ?_;refine tg 2 88 (.pointer (some ⟨q,1,none⟩)) ⟨HK.o.lx.blk,HK.o.tb⟩ ?_;refine tk 3 89 (.int .i64 (i:Int)) ?_ ⟨HK.o.lx.blk,HK.o.tb⟩ ?_
   · exact uCO
   refine tg 4 90 (.pointer (some ⟨T,3,none⟩)) ⟨HK.o.lx.blk,HK.o.tb⟩ ?_;refine tk 5 91 (.string t) ?_ ⟨HK.o.lx.blk,HK.o.tb⟩ ?_
   · intro wz hSz;obtain⟨c3,cf3⟩:=zz (hSz.2) 3;go_simp
   refine tk 6 92 (.int .i64 ((m:Int)-(i:Int))) ?_ ⟨HK.o.lx.blk,HK.o.tb⟩ ?_
   · intro wz hSz;have hle:=HTL.o;go_simp
   refine tk 7 93 (.int .i64 (m:Int)) ?_ ⟨HK.o.lx.blk,HK.o.tb⟩ ?_
   · intro wz hSz;have hwr:=HWR.o;go_simp
   try simp only[Act.put,pA,pB,pC]
   refine wone 8 fun K hK=>?_;go_simp;refine hK.o _ _ (fun _=>⟨HK.o.lx.blk,HK.o.tb⟩) ?_;clear hK;refine tg 9 95 (.pointer (some ⟨q,1,none⟩)) ⟨HK.o.lx.blk,HK.o.tb⟩ ?_;try simp only[Act.put,pA,pB,pC]
   obtain⟨l1,lf1⟩:=zz HK.o.lx.blk 1;refine wone 10 fun K hK=>?_;go_simp;replace HK:=hI (HK.o.put (z:=(m:Int)) (j:=m) rfl HMS.o);generalize wd.setCell _ _=wx at *;refine hK.o _ _ (fun h=>absurd rfl h) ?_;clear hK;try simp only[Act.put,pA,pB,pC]
   refine wD ?_ _;clear l1 lf1;subst hv;go_upto_region 29 with (fail);refine wL (fun w'=>w'.heap[q]? = some (.cells #[s,m,.map (some mb),.slice (some ⟨gb,0,none⟩) 26 26,.slice vA toks.length vc] 105 (0,0))∧w'.heap[T]? = some (.cells #[.int .i64 1,i,.int .i64 0,t] 56 (0,0))) 10 ?_;replace HK:=hI HK.o.drew;generalize hwd:wx.drew=wd at *;clear hwd;refine tg 0 120 (.pointer (some ⟨q,0,none⟩)) ⟨HK.o.lx.blk,HK.o.tb⟩ ?_;refine tg 1 121 (.pointer (some ⟨q,0,none⟩)) ⟨HK.o.lx.blk,HK.o.tb⟩ ?_;refine tg 2 122 (.pointer (some ⟨q,0,none⟩)) ⟨HK.o.lx.blk,HK.o.tb⟩ ?_;refine tg 3 123 (.pointer (some ⟨q,4,none⟩)) ⟨HK.o.lx.blk,HK.o.tb⟩ ?_;refine tk 4 124 (.slice vA toks.length vc) ?_ ⟨HK.o.lx.blk,HK.o.tb⟩ ?_
   · exact uB4
   refine tk 5 125 (.agg #[.int .i64 1,i,.int .i64 0,t]) ?_ ⟨HK.o.lx.blk,HK.o.tb⟩ ?_
   · intro wz hSz;have c_:=cb4 (hSz.2);go_simp
   try simp only[Act.put,pA,pB,pC]
   obtain⟨v',v5,hrun,hown,hg,hob⟩:=zXS 46 56 (.agg #[.int .i64 0,.int .i64 0,.int .i64 0,.string ⟨#[]⟩]) 4 40 Tryz.underlying46 (by kernel_rfl) (by rfl) (by decide) (by decide) wd (q+1) (.slice vA toks.length vc) toks.length (toks.flatMap zL) HK.o.row [.int .i64 1,i,.int .i64 0,t] rfl (by intro u hu;simp at hu;rcases hu with rfl | rfl | rfl | rfl <;> rfl) (by have:=HN.o;omega) HK.o.lx.lt;obtain⟨hl4,ht4,hb4⟩:=HK.o.grow (bnew wd (.cells ([.int .i64 1,i,.int .i64 0,t]:List Value).toArray 56)) hg;have HKN:=hI (HK.o.below (bnew wd (.cells ([.int .i64 1,i,.int .i64 0,t]:List Value).toArray 56)));exact uOF
  simp only[if_true] at HR;obtain⟨t0,tf0⟩:=zz HK.o.tb 0;go_upto_region 19 with (fail);clear t0 tf0;replace HK:=hI (HK.o.setT 0 (.int .i64 3));generalize wd.setCell _ _=v4 at *;obtain⟨t3,tf3⟩:=zz HK.o.tb 3;have htl:=HTL.o;by_cases h40:40<m-i
  · have k40:(40:Int)<(m:Int)-(i:Int):=by omega
    rw[if_pos h40] at HR;clear h40;exact uVq
  have k40:¬(40:Int)<(m:Int)-(i:Int):=by omega
  rw[if_neg h40] at HR;clear h40;go_upto_region 21 with (fail);clear t3 tf3 htl k40;go_upto_region 21 with (fail);refine wL (fun w'=>w'.heap[q]? = some (.cells #[s,i,.map (some mb),.slice (some ⟨gb,0,none⟩) 26 26,v] 105 (0,0))∧w'.heap[T]? = some (.cells #[.int .i64 3,i,.int .i64 0,t] 56 (0,0))) 10 ?_;replace HK:=hI HK.o.drew;generalize hwd:v4.drew=wd at *;clear hwd;refine tg 0 86 (.pointer (some ⟨q,0,none⟩)) ⟨HK.o.lx.blk,HK.o.tb⟩ ?_;refine tg 1 87 (.pointer (some ⟨q,0,none⟩)) ⟨HK.o.lx.blk,HK.o.tb⟩ ?_;refine tg 2 88 (.pointer (some ⟨q,1,none⟩)) ⟨HK.o.lx.blk,HK.o.tb⟩ ?_;refine tk 3 89 (.int .i64 (i:Int)) ?_ ⟨HK.o.lx.blk,HK.o.tb⟩ ?_
  · exact uCO
  refine tg 4 90 (.pointer (some ⟨T,3,none⟩)) ⟨HK.o.lx.blk,HK.o.tb⟩ ?_;refine tk 5 91 (.string t) ?_ ⟨HK.o.lx.blk,HK.o.tb⟩ ?_
  · intro wz hSz;obtain⟨c3,cf3⟩:=zz (hSz.2) 3;go_simp
  refine tk 6 92 (.int .i64 ((m:Int)-(i:Int))) ?_ ⟨HK.o.lx.blk,HK.o.tb⟩ ?_
  · intro wz hSz;have hle:=HTL.o;go_simp
  refine tk 7 93 (.int .i64 (m:Int)) ?_ ⟨HK.o.lx.blk,HK.o.tb⟩ ?_
  · intro wz hSz;have hwr:=HWR.o;go_simp
  try simp only[Act.put,pA,pB,pC]
  refine wone 8 fun K hK=>?_;go_simp;refine hK.o _ _ (fun _=>⟨HK.o.lx.blk,HK.o.tb⟩) ?_;clear hK;refine tg 9 95 (.pointer (some ⟨q,1,none⟩)) ⟨HK.o.lx.blk,HK.o.tb⟩ ?_;try simp only[Act.put,pA,pB,pC]
  obtain⟨l1,lf1⟩:=zz HK.o.lx.blk 1;refine wone 10 fun K hK=>?_;go_simp;replace HK:=hI (HK.o.put (z:=(m:Int)) (j:=m) rfl HMS.o);generalize wd.setCell _ _=wx at *;refine hK.o _ _ (fun h=>absurd rfl h) ?_;clear hK;try simp only[Act.put,pA,pB,pC]
  refine wD ?_ _;clear l1 lf1;subst hv;go_upto_region 29 with (fail);refine wL (fun w'=>w'.heap[q]? = some (.cells #[s,m,.map (some mb),.slice (some ⟨gb,0,none⟩) 26 26,.slice vA toks.length vc] 105 (0,0))∧w'.heap[T]? = some (.cells #[.int .i64 3,i,.int .i64 0,t] 56 (0,0))) 10 ?_;replace HK:=hI HK.o.drew;generalize hwd:wx.drew=wd at *;clear hwd;refine tg 0 120 (.pointer (some ⟨q,0,none⟩)) ⟨HK.o.lx.blk,HK.o.tb⟩ ?_;refine tg 1 121 (.pointer (some ⟨q,0,none⟩)) ⟨HK.o.lx.blk,HK.o.tb⟩ ?_;refine tg 2 122 (.pointer (some ⟨q,0,none⟩)) ⟨HK.o.lx.blk,HK.o.tb⟩ ?_;refine tg 3 123 (.pointer (some ⟨q,4,none⟩)) ⟨HK.o.lx.blk,HK.o.tb⟩ ?_;refine tk 4 124 (.slice vA toks.length vc) ?_ ⟨HK.o.lx.blk,HK.o.tb⟩ ?_
  · exact uB4
  refine tk 5 125 (.agg #[.int .i64 3,i,.int .i64 0,t]) ?_ ⟨HK.o.lx.blk,HK.o.tb⟩ ?_
  · intro wz hSz;have c_:=cb4 (hSz.2);go_simp
  try simp only[Act.put,pA,pB,pC]
  obtain⟨v',v5,hrun,hown,hg,hob⟩:=zXS 46 56 (.agg #[.int .i64 0,.int .i64 0,.int .i64 0,.string ⟨#[]⟩]) 4 40 Tryz.underlying46 (by kernel_rfl) (by rfl) (by decide) (by decide) wd (q+1) (.slice vA toks.length vc) toks.length (toks.flatMap zL) HK.o.row [.int .i64 3,i,.int .i64 0,t] rfl (by intro u hu;simp at hu;rcases hu with rfl | rfl | rfl | rfl <;> rfl) (by have:=HN.o;omega) HK.o.lx.lt;obtain⟨hl4,ht4,hb4⟩:=HK.o.grow (bnew wd (.cells ([.int .i64 3,i,.int .i64 0,t]:List Value).toArray 56)) hg;have HKN:=hI (HK.o.below (bnew wd (.cells ([.int .i64 3,i,.int .i64 0,t]:List Value).toArray 56)));exact uOF
 rw[hl,if_neg (by simp)] at HR;rw[hl] at HCL;have HCD:=hI (zXB c);cases hd:zDE c
 case true =>
  rw[hd,if_pos rfl] at HR;have HGT:=hI (HRT.o (by rw[hl,hd];rfl));rw[hd] at HCD;clear hl hd HRT;have HRUN0:=hI (zsx HK.o.lx);generalize zaO s s.size i=m at HR HRG HGT HRUN0;obtain⟨t,ht⟩:∃t:ByteArray,s.extract i m=t:=⟨_,rfl⟩
  have hts:t.size=m-i:=by rw[←ht];exact zR3 s i m HRG.o.1 HRG.o.2
  rw[ht] at HR HRUN0;have HTS:=hI hts;have HMS:=hI HRG.o.2;have HNUM:=hI (zo9 t (by have:=HGT.o;omega) (by have:=HMS.o;have:=HS.o;omega));clear ht hts;obtain⟨on,hon⟩:∃on,z0J t=on:=⟨_,rfl⟩
  have hrt:=HR.o;rw[hon] at hrt HNUM;replace HR:=hI hrt;clear hrt hon;go_wp2_with fail;refine (HCL.o wd).mono ?_;rintro e v1 ⟨rfl,hw⟩;subst hw;go_wp2_with fail;refine (HCD.o _).mono ?_;rintro e v1 ⟨rfl,hw⟩;subst hw;go_wp2_with fail;refine (HRUN0.o).mono ?_;rintro e v2 ⟨rfl,hb⟩;replace HK:=hI (HK.o.below hb);clear hb;go_wp2_with fail;refine (HNUM.o _).mono ?_;rintro e v5 ⟨rfl,hw⟩;subst hw;cases on
  case none=>unfold z6H;simp only;exact uVq
  rename_i z;unfold z6H;simp only;obtain⟨t0,tf0⟩:=zz HK.o.tb 0;obtain⟨t2,tf2⟩:=zz HK.o.tb 2;go_upto_region 28 with (fail);clear t0 tf0 t2 tf2;replace HK:=hI (HK.o.setT 0 (.int .i64 2));generalize v5.setCell _ _=v4 at *;replace HK:=hI (HK.o.setT 2 (.int .i64 (z:Int)));generalize v4.setCell _ _=v2 at *;have htl:(t.size:Int)=(m:Int)-(i:Int):=by have:=HTS.o;have:=HGT.o;omega
  have hwr:(i:Int)+((m:Int)-(i:Int))=(m:Int):=by omega
  have hm0:(m:Int)<1000000:=by have:=HMS.o;have:=HS.o;omega
  have hi0:(0:Int)≤(i:Int):=by omega
  have him:(i:Int)<(m:Int):=by have:=HGT.o;omega
  obtain⟨l1,lf1⟩:=zz HK.o.lx.blk 1;go_upto_region 29 with (fail);clear l1 lf1 htl hwr hm0 hi0 him;replace HK:=hI (HK.o.put (z:=(m:Int)) (j:=m) rfl HMS.o);generalize v2.setCell _ _=wx at *;subst hv;go_upto_region 29 with (fail);refine wL (fun w'=>w'.heap[q]? = some (.cells #[s,m,.map (some mb),.slice (some ⟨gb,0,none⟩) 26 26,.slice vA toks.length vc] 105 (0,0))∧w'.heap[T]? = some (.cells #[.int .i64 2,i,z,.string ⟨#[]⟩] 56 (0,0))) 10 ?_;replace HK:=hI HK.o.drew;generalize hwd:wx.drew=wd at *;clear hwd;refine tg 0 120 (.pointer (some ⟨q,0,none⟩)) ⟨HK.o.lx.blk,HK.o.tb⟩ ?_;refine tg 1 121 (.pointer (some ⟨q,0,none⟩)) ⟨HK.o.lx.blk,HK.o.tb⟩ ?_;refine tg 2 122 (.pointer (some ⟨q,0,none⟩)) ⟨HK.o.lx.blk,HK.o.tb⟩ ?_;refine tg 3 123 (.pointer (some ⟨q,4,none⟩)) ⟨HK.o.lx.blk,HK.o.tb⟩ ?_;refine tk 4 124 (.slice vA toks.length vc) ?_ ⟨HK.o.lx.blk,HK.o.tb⟩ ?_
  · exact uB4
  refine tk 5 125 (.agg #[.int .i64 2,i,z,.string ⟨#[]⟩]) ?_ ⟨HK.o.lx.blk,HK.o.tb⟩ ?_
  · intro wz hSz;have c_:=cb4 (hSz.2);go_simp
  try simp only[Act.put,pA,pB,pC]
  obtain⟨v',v5,hrun,hown,hg,hob⟩:=zXS 46 56 (.agg #[.int .i64 0,.int .i64 0,.int .i64 0,.string ⟨#[]⟩]) 4 40 Tryz.underlying46 (by kernel_rfl) (by rfl) (by decide) (by decide) wd (q+1) (.slice vA toks.length vc) toks.length (toks.flatMap zL) HK.o.row [.int .i64 2,i,z,.string ⟨#[]⟩] rfl (by intro u hu;simp at hu;rcases hu with rfl | rfl | rfl | rfl <;> rfl) (by have:=HN.o;omega) HK.o.lx.lt;obtain⟨hl4,ht4,hb4⟩:=HK.o.grow (bnew wd (.cells ([.int .i64 2,i,z,.string ⟨#[]⟩]:List Value).toArray 56)) hg;have HKN:=hI (HK.o.below (bnew wd (.cells ([.int .i64 2,i,z,.string ⟨#[]⟩]:List Value).toArray 56)));exact uOF
 rw[hd,if_neg (by simp)] at HR;rw[hd] at HCD;clear hl hd HRT;go_wp2_with fail;refine (HCL.o wd).mono ?_;rintro e v1 ⟨rfl,hw⟩;subst hw;go_wp2_with fail;refine (HCD.o _).mono ?_;rintro e v1 ⟨rfl,hw⟩;subst hw;obtain⟨t0,tf0⟩:=zz HK.o.tb 0;go_upto_region 4 with (fail);clear t0 tf0;replace HK:=hI (HK.o.setT 0 (.int .i64 4));generalize v1.setCell _ _=v4 at *;obtain⟨l3,lf3⟩:=zz HK.o.lx.blk 3;go_wp2_with fail;clear l3 lf3;go_loopw [11,32] (fun _ vi wr=>∃k:Nat,vi=.int .i64 (k:Int)∧k≤26∧TkSt W wr q mb gb T s i v toks [.int .i64 4,i,.int .i64 0,.string ⟨#[]⟩]∧Jd ((match zQX s i (zut.drop k) with
 | none=>none
 | some x=>some (⟨4,(i:Int),0,x⟩,i+x.size))=R)) (fun _ vi _=>26-(intOf vi).toNat)
 case atStart=>exact⟨0,rfl,Nat.zero_le _,HK.o,HR⟩
 case round =>
  clear HK HR;obtain⟨k,rfl,hk,hK,HR⟩:=hrel;have HK:=hI hK;clear hK;by_cases hlt:k<26
  · have k0:(0:Int)≤(k:Int):=by omega
    have k1:(k:Int)<26:=by omega
    obtain⟨x,hx⟩:∃x,zut.getD k ⟨#[]⟩=x:=⟨_,rfl⟩
    have hdr:zut.drop k=x::zut.drop (k+1):=by rw[List.drop_eq_getElem_cons (show k<zut.length from hlt),←hx,List.getD_eq_getElem?_getD,List.getElem?_eq_getElem (show k<zut.length from hlt)];rfl
    have hxs:0<x.size:=by rw[←hx];exact zXx k hlt
    rw[hdr] at HR;unfold zQX at HR;have HX:=hI hx;have HXS:=hI hxs;have HLT:=hI hlt;clear hdr hx hxs hlt hk;obtain⟨g0,gf0⟩:=zz HK.o.lx.sgn k;have gx:wr.cell? ⟨gb,k,none⟩=some (.string x):=by rw[g0,List.getElem?_toArray,List.getElem?_map,List.getElem?_eq_getElem (show k<zut.length from HLT.o),←HX.o,List.getD_eq_getElem?_getD,List.getElem?_eq_getElem (show k<zut.length from HLT.o)];rfl
    clear g0 gf0;have HHP:=hI (fun W=>Tryz.strings_HasPrefix (s.extract i s.size) x W);rw[zxt] at HHP;cases hh:zgp s i x
    case false =>
     rw[hh] at HHP;rw[hh] at HR;simp only[Bool.false_eq_true,if_false] at HR;have HH:=hI hh;clear hh;go_upto_region 7 with (fail);refine wL (fun w'=>w'.heap[q]? = some (.cells #[s,i,.map (some mb),.slice (some ⟨gb,0,none⟩) 26 26,v] 105 (0,0))∧w'.heap[T]? = some (.cells #[.int .i64 4,i,.int .i64 0,.string ⟨#[]⟩] 56 (0,0))) 99 ?_;replace HK:=hI HK.o.drew;clear gx;generalize hwd:wr.drew=wd at *;clear hwd;refine tg 0 36 (.pointer (some ⟨q,0,none⟩)) ⟨HK.o.lx.blk,HK.o.tb⟩ ?_;refine tg 1 37 (.pointer (some ⟨q,0,none⟩)) ⟨HK.o.lx.blk,HK.o.tb⟩ ?_;refine tg 2 38 (.pointer (some ⟨q,0,none⟩)) ⟨HK.o.lx.blk,HK.o.tb⟩ ?_;refine tk 3 39 (.string s) ?_ ⟨HK.o.lx.blk,HK.o.tb⟩ ?_
     · intro wz hSz;obtain⟨c0,cf0⟩:=zz (hSz.1) 0;go_simp
     refine tg 4 40 (.pointer (some ⟨q,0,none⟩)) ⟨HK.o.lx.blk,HK.o.tb⟩ ?_;refine tg 5 41 (.pointer (some ⟨q,0,none⟩)) ⟨HK.o.lx.blk,HK.o.tb⟩ ?_;refine tg 6 42 (.pointer (some ⟨q,1,none⟩)) ⟨HK.o.lx.blk,HK.o.tb⟩ ?_;refine tk 7 43 (.int .i64 (i:Int)) ?_ ⟨HK.o.lx.blk,HK.o.tb⟩ ?_
     · exact uCO
     refine tk 8 44 (.string (s.extract i s.size)) ?_ ⟨HK.o.lx.blk,HK.o.tb⟩ ?_
     · intro wz hSz;have hsl:=zSn s i (Nat.le_of_lt HI.o) (by have:=HS.o;omega);go_simp
     refine tg 9 45 (.string x) ⟨HK.o.lx.blk,HK.o.tb⟩ ?_;try simp only[Act.put,pA,pB,pC]
     refine wone 10 fun K hK=>?_;go_simp;refine (HHP.o _).mono ?_;rintro e v1 ⟨rfl,hw⟩;subst hw;refine hK.o _ _ (fun _=>⟨HK.o.lx.blk,HK.o.tb⟩) ?_;clear hK;try simp only[Act.put,pA,pB,pC]
     refine wD ?_ _;go_wp2_with fail;go_roundw
     case rel=>exact⟨k+1,by go_num,HLT.o,HK.o,HR⟩
     case measure=>simp[intOf];have:=HLT.o;omega
    rw[hh] at HHP;rw[hh] at HR;simp only[if_true] at HR;have HH:=hI hh;clear hh;go_upto_region 7 with (fail);refine wL (fun w'=>w'.heap[q]? = some (.cells #[s,i,.map (some mb),.slice (some ⟨gb,0,none⟩) 26 26,v] 105 (0,0))∧w'.heap[T]? = some (.cells #[.int .i64 4,i,.int .i64 0,.string ⟨#[]⟩] 56 (0,0))) 99 ?_;replace HK:=hI HK.o.drew;clear gx;generalize hwd:wr.drew=wd at *;clear hwd;refine tg 0 36 (.pointer (some ⟨q,0,none⟩)) ⟨HK.o.lx.blk,HK.o.tb⟩ ?_;refine tg 1 37 (.pointer (some ⟨q,0,none⟩)) ⟨HK.o.lx.blk,HK.o.tb⟩ ?_;refine tg 2 38 (.pointer (some ⟨q,0,none⟩)) ⟨HK.o.lx.blk,HK.o.tb⟩ ?_;refine tk 3 39 (.string s) ?_ ⟨HK.o.lx.blk,HK.o.tb⟩ ?_
    · intro wz hSz;obtain⟨c0,cf0⟩:=zz (hSz.1) 0;go_simp
    refine tg 4 40 (.pointer (some ⟨q,0,none⟩)) ⟨HK.o.lx.blk,HK.o.tb⟩ ?_;refine tg 5 41 (.pointer (some ⟨q,0,none⟩)) ⟨HK.o.lx.blk,HK.o.tb⟩ ?_;refine tg 6 42 (.pointer (some ⟨q,1,none⟩)) ⟨HK.o.lx.blk,HK.o.tb⟩ ?_;refine tk 7 43 (.int .i64 (i:Int)) ?_ ⟨HK.o.lx.blk,HK.o.tb⟩ ?_
    · exact uCO
    refine tk 8 44 (.string (s.extract i s.size)) ?_ ⟨HK.o.lx.blk,HK.o.tb⟩ ?_
    · intro wz hSz;have hsl:=zSn s i (Nat.le_of_lt HI.o) (by have:=HS.o;omega);go_simp
    refine tg 9 45 (.string x) ⟨HK.o.lx.blk,HK.o.tb⟩ ?_;try simp only[Act.put,pA,pB,pC]
    refine wone 10 fun K hK=>?_;go_simp;refine (HHP.o _).mono ?_;rintro e v1 ⟨rfl,hw⟩;subst hw;refine hK.o _ _ (fun _=>⟨HK.o.lx.blk,HK.o.tb⟩) ?_;clear hK;try simp only[Act.put,pA,pB,pC]
    refine wD ?_ _;obtain⟨m,hm⟩:∃m,i+x.size=m:=⟨_,rfl⟩
    have HMS:Jd (m≤s.size):=hI (by rw[←hm];exact zFT HH.o (Nat.le_of_lt HI.o));have HTL:Jd ((x.size:Int)=(m:Int)-(i:Int)):=hI (by omega);have HWR:Jd (IntKind.i64.wrap ((i:Int)+((m:Int)-(i:Int)))=(m:Int)):=hI (by have:=HMS.o;have:=HS.o;rw[zF];unfold wrap64;omega);rw[hm] at HR;clear hm;obtain⟨t3,tf3⟩:=zz HK.o.tb 3;go_upto_region 10 with (fail);clear t3 tf3;replace HK:=hI (HK.o.setT 3 (.string x));generalize v1.setCell _ _=v3 at *;have qx:(x.toList==[])=false:=zj2 ⟨#[]⟩ _ rfl (fun e=>by have:=HXS.o;rw[e] at this;exact absurd this (by decide));obtain⟨t3,tf3⟩:=zz HK.o.tb 3;go_upto_region 12 with (fail);clear t3 tf3 qx;go_upto_region 12 with (fail);refine wL (fun w'=>w'.heap[q]? = some (.cells #[s,i,.map (some mb),.slice (some ⟨gb,0,none⟩) 26 26,v] 105 (0,0))∧w'.heap[T]? = some (.cells #[.int .i64 4,i,.int .i64 0,x] 56 (0,0))) 10 ?_;replace HK:=hI HK.o.drew;generalize hwd:v3.drew=wd at *;clear hwd;refine tg 0 53 (.pointer (some ⟨q,0,none⟩)) ⟨HK.o.lx.blk,HK.o.tb⟩ ?_;refine tg 1 54 (.pointer (some ⟨q,0,none⟩)) ⟨HK.o.lx.blk,HK.o.tb⟩ ?_;refine tg 2 55 (.pointer (some ⟨q,1,none⟩)) ⟨HK.o.lx.blk,HK.o.tb⟩ ?_;refine tk 3 56 (.int .i64 (i:Int)) ?_ ⟨HK.o.lx.blk,HK.o.tb⟩ ?_
    · exact uCO
    refine tg 4 57 (.pointer (some ⟨T,3,none⟩)) ⟨HK.o.lx.blk,HK.o.tb⟩ ?_;refine tk 5 58 (.string x) ?_ ⟨HK.o.lx.blk,HK.o.tb⟩ ?_
    · intro wz hSz;obtain⟨c3,cf3⟩:=zz (hSz.2) 3;go_simp
    refine tk 6 59 (.int .i64 ((m:Int)-(i:Int))) ?_ ⟨HK.o.lx.blk,HK.o.tb⟩ ?_
    · intro wz hSz;have hle:=HTL.o;go_simp
    refine tk 7 60 (.int .i64 (m:Int)) ?_ ⟨HK.o.lx.blk,HK.o.tb⟩ ?_
    · intro wz hSz;have hwr:=HWR.o;go_simp
    try simp only[Act.put,pA,pB,pC]
    refine wone 8 fun K hK=>?_;go_simp;refine hK.o _ _ (fun _=>⟨HK.o.lx.blk,HK.o.tb⟩) ?_;clear hK;refine tg 9 62 (.pointer (some ⟨q,1,none⟩)) ⟨HK.o.lx.blk,HK.o.tb⟩ ?_;try simp only[Act.put,pA,pB,pC]
    obtain⟨l1,lf1⟩:=zz HK.o.lx.blk 1;refine wone 10 fun K hK=>?_;go_simp;replace HK:=hI (HK.o.put (z:=(m:Int)) (j:=m) rfl HMS.o);generalize wd.setCell _ _=wx at *;refine hK.o _ _ (fun h=>absurd rfl h) ?_;clear hK;try simp only[Act.put,pA,pB,pC]
    refine wD ?_ _;clear l1 lf1;subst hv;go_upto_region 29 with (fail);refine wL (fun w'=>w'.heap[q]? = some (.cells #[s,m,.map (some mb),.slice (some ⟨gb,0,none⟩) 26 26,.slice vA toks.length vc] 105 (0,0))∧w'.heap[T]? = some (.cells #[.int .i64 4,i,.int .i64 0,x] 56 (0,0))) 10 ?_;replace HK:=hI HK.o.drew;generalize hwd:wx.drew=wd at *;clear hwd;refine tg 0 120 (.pointer (some ⟨q,0,none⟩)) ⟨HK.o.lx.blk,HK.o.tb⟩ ?_;refine tg 1 121 (.pointer (some ⟨q,0,none⟩)) ⟨HK.o.lx.blk,HK.o.tb⟩ ?_;refine tg 2 122 (.pointer (some ⟨q,0,none⟩)) ⟨HK.o.lx.blk,HK.o.tb⟩ ?_;refine tg 3 123 (.pointer (some ⟨q,4,none⟩)) ⟨HK.o.lx.blk,HK.o.tb⟩ ?_;refine tk 4 124 (.slice vA toks.length vc) ?_ ⟨HK.o.lx.blk,HK.o.tb⟩ ?_
    · exact uB4
    refine tk 5 125 (.agg #[.int .i64 4,i,.int .i64 0,x]) ?_ ⟨HK.o.lx.blk,HK.o.tb⟩ ?_
    · intro wz hSz;have c_:=cb4 (hSz.2);go_simp
    try simp only[Act.put,pA,pB,pC]
    obtain⟨v',v5,hrun,hown,hg,hob⟩:=zXS 46 56 (.agg #[.int .i64 0,.int .i64 0,.int .i64 0,.string ⟨#[]⟩]) 4 40 Tryz.underlying46 (by kernel_rfl) (by rfl) (by decide) (by decide) wd (q+1) (.slice vA toks.length vc) toks.length (toks.flatMap zL) HK.o.row [.int .i64 4,i,.int .i64 0,x] rfl (by intro u hu;simp at hu;rcases hu with rfl | rfl | rfl | rfl <;> rfl) (by have:=HN.o;omega) HK.o.lx.lt;obtain⟨hl4,ht4,hb4⟩:=HK.o.grow (bnew wd (.cells ([.int .i64 4,i,.int .i64 0,x]:List Value).toArray 56)) hg;have HKN:=hI (HK.o.below (bnew wd (.cells ([.int .i64 4,i,.int .i64 0,x]:List Value).toArray 56)));exact uOF
  obtain rfl:k=26:=by omega
  rw[show zut.drop 26=[] from rfl] at HR;simp only[zQX] at HR;clear hlt hk;obtain⟨t3,tf3⟩:=zz HK.o.tb 3;exact uVq
end
end Go.Proofs.YtfibdoehmndinaaGreatDoor
