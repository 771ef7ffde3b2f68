/- Parts of a proof, joined. No condition but those that each theorem names. -/
import Derived.BigQuiet
import Derived.Test.YtfibdoehmndinaaGreatDoorTfG0e14
namespace Go.Proofs.YtfibdoehmndinaaGreatDoor
open Go.RowKit
set_option linter.unusedVariables false
set_option maxRecDepth 100000
set_option maxHeartbeats 1000000
section
variable {p:Prop}
theorem uDc (h:p:=by
 refine⟨zQ rfl ?_,zQ rfl ?_,zQ rfl ?_,zQ rfl ?_,zQ rfl ?_,zQ rfl ?_,trivial⟩;all_goals (simp only[Act.put,pA,pB,pC,Option.getD];go_simp)):p:=h
theorem uZ9 (h:p:=by
 intro wz hSz;obtain⟨hx0,hx1⟩:=hSz;refine⟨zQ rfl ?_,zQ rfl ?_,zQ rfl ?_,zQ rfl ?_,zQ rfl ?_,zQ rfl ?_,zQ rfl ?_,zQ rfl ?_,zQ rfl ?_,zQ rfl ?_,zQ rfl ?_,zQ rfl ?_,trivial⟩;all_goals (simp only[Act.put,pA,pB,pC,Option.getD];go_simp)):p:=h
theorem uHn (h:p:=by
 try simp only[zy,zW,Act.put,pA,pB,pC,Option.getD]
 refine wD ?_ _;go_wp2_with fail;exact uS3):p:=h
theorem uNp (h:p:=by
 replace HR:=hI hrt;clear hrt k7 k26 k11 k12 k13 k25 HXX;go_wp2_with fail;exact uS3):p:=h
end
def intE:Enc Int:=zOe 1 (fun v=>[.int .i64 v]) (fun _=>rfl)
theorem z1H:zOH intE:=fun h _ _=>h
theorem zOD {w:World} {B c:Nat} {A:Option Addr} {l:List Int} (h:zj intE w B (.slice A l.length c) l) (k:Nat) (hk:k<l.length):∃b off,A=some ⟨b,off,none⟩∧w.cell? ⟨b,off+k,none⟩=some (.int .i64 (l.getD k 0)):=by
 obtain⟨A',c',e,_,hx⟩:=h;injection e with e1 e2 e3;subst e1;obtain⟨b,off,es,e4,hb,rfl,hc⟩:=hx k _ (ztr l k 0 hk);have h9:=hc 0 _ rfl;rw[show off+k*intE.size+0=off+k by show off+k*1+0=off+k;omega] at h9;exact⟨b,off,e4,h9⟩
def RMd (_:World) (u:Value) (t:Int×Bool):Prop:=u=.tuple #[.int .i64 t.1,.bool t.2]
theorem zhX (l:List Int) (k:Nat) (h:k<l.length):((l.take (k+1)).all fun e=>decide (e=0))=((l.take k).all (fun e=>decide (e=0)) && decide (l.getD k 0=0)):=by
 rw[List.take_succ_eq_append_getElem h,List.all_append,List.getD_eq_getElem?_getD,List.getElem?_eq_getElem h];simp
theorem z7C (kind:Int) (es:List Int) (A:Option Addr) (c:Nat) (w:World) (hl:es.length≤65536) (hx:zj intE w w.heap.size (.slice A es.length c) es) (hb:zY1 kind es≠.bad) :
  Calls Tryz.prog 153 #[kind,.slice A es.length c] w (zn noS w RMd (zY1 kind es)):=by
 have HXX:=hI hx;have HLN:=hI hl;have HF:=hI (Frm.start (S:=noS) w (fun _ h=>h.elim));obtain⟨r,hr⟩:∃r,zY1 kind es=r:=⟨_,rfl⟩
 rw[hr] at hb ⊢;have HR:=hI hr;have HNB:=hI hb;generalize hPO:zn noS w RMd r=PO;have HPO:=hI hPO;clear hr hPO hb hx hl;go_enter Tryz.func153,Tryz.ntmps153;go_wp2_with fail;go_loopw [6,8,11] (fun vb _ vi wr=>∃(i:Nat),i≤es.length∧vi=.int .i64 i∧vb=.bool ((es.take i).all fun e=>decide (e=0))∧wr=w) (fun _ _ vi _=>es.length-(intOf vi).toNat)
 case atStart=>exact⟨0,Nat.zero_le _,rfl,rfl,rfl⟩
 case round =>
  obtain⟨i,hi,rfl,rfl,hwr⟩:=hrel;subst hwr;by_cases hlt:i<es.length
  case pos =>
   obtain⟨b,off,rfl,y0⟩:=zOD HXX.o i hlt;have HT:=hI (zhX es i hlt);generalize es.getD i 0=v at *;have HLT1:=hI hlt;have k0:(0:Int)≤(i:Int):=by omega
   have k1:(i:Int)<(es.length:Int):=by omega
   have hz1:(i:Int)<65537:=by have:=HLN.o;omega
   clear hlt hi;cases hv:(es.take i).all (fun e=>decide (e=0))
   case' true=>skip
   all_goals
    have HV:=hI hv;clear hv;go_wp2_with fail;go_roundw
    case rel=>exact⟨i+1,HLT1.o,rfl,by rw[HT.o,HV.o];rfl,trivial⟩
    case measure=>simp only[intOf];have:=HLT1.o;omega
  obtain rfl:i=es.length:=by omega
  rw[List.take_length];clear hlt hi;try simp only[List.take_length]
  by_cases k7:kind=7
  case pos =>
   subst k7;have hrt:=HR.o;unfold zY1 at hrt;rw[if_pos rfl] at hrt
   obtain⟨va,rest,he⟩:∃va rest,es=va::rest:=by
    match es,hrt with
    | [],hrt=>exact absurd hrt.symm HNB.o
    | va::rest,_=>exact⟨va,rest,rfl⟩
   have hln:1≤es.length:=by rw[he];simp
   obtain⟨b0,o0,e0,y0⟩:=zOD HXX.o 0 (by omega);rw[show es.getD 0 0=va by rw[he];rfl] at y0;subst e0;rw[he] at hrt;try simp only at hrt
   replace HR:=hI hrt;have k10:(0:Int)<(es.length:Int):=by omega
   clear hrt hln he HXX;simp only[Nat.add_zero] at y0;generalize es.length=ln at *;have kz:¬ln=0:=by omega
   go_upto_region 8 with (fail);refine wL (fun w'=>w'.cell? ⟨b0,o0,none⟩=some (.int .i64 va)) 99 ?_;have HY0:Jd (wr.drew.cell? ⟨b0,o0,none⟩=some (.int .i64 va)):=hI y0;clear y0;replace HF:=hI HF.o.drew;generalize wr.drew=w70 at *;refine zY (by kernel_rfl) (fun _ _ _ _ _ h=>h) [(0,some 24,some (.slice (some ⟨b0,o0,none⟩) ln c)),(1,some 25,some (.pointer (some ⟨b0,o0,none⟩))),(2,some 26,some (.int .i64 va)),(3,some 27,some (.bool (va==1))),(4,some 4,some (.int .i64 1)),(5,some 5,some (.bool (va==1)))] 0 (by rfl) (by kernel_rfl) (by kernel_rfl) ?hv1 (HY0.o) ?rs1
   case hv1=>intro wz hSz;have hx0:=hSz;exact uDc
   exact uHn
  have q7:(kind==7)=false:=nB k7;by_cases k26:kind=26
  case pos =>
   subst k26;have hrt:=HR.o;unfold zY1 at hrt;rw[if_neg (by decide),if_pos rfl] at hrt
   obtain⟨va,rest,he⟩:∃va rest,es=va::rest:=by
    match es,hrt with
    | [],hrt=>exact absurd hrt.symm HNB.o
    | va::rest,_=>exact⟨va,rest,rfl⟩
   have hln:1≤es.length:=by rw[he];simp
   obtain⟨b0,o0,e0,y0⟩:=zOD HXX.o 0 (by omega);rw[show es.getD 0 0=va by rw[he];rfl] at y0;subst e0;rw[he] at hrt;try simp only at hrt
   replace HR:=hI hrt;have k10:(0:Int)<(es.length:Int):=by omega
   clear hrt hln he HXX;simp only[Nat.add_zero] at y0;generalize es.length=ln at *;have kz:¬ln=0:=by omega
   go_upto_region 10 with (fail);refine wL (fun w'=>w'.cell? ⟨b0,o0,none⟩=some (.int .i64 va)) 99 ?_;have HY0:Jd (wr.drew.cell? ⟨b0,o0,none⟩=some (.int .i64 va)):=hI y0;clear y0;replace HF:=hI HF.o.drew;generalize wr.drew=w70 at *;refine zY (by kernel_rfl) (fun _ _ _ _ _ h=>h) [(0,some 31,some (.slice (some ⟨b0,o0,none⟩) ln c)),(1,some 32,some (.pointer (some ⟨b0,o0,none⟩))),(2,some 33,some (.int .i64 va)),(3,some 34,some (.bool (va==1))),(4,some 4,some (.int .i64 0)),(5,some 5,some (.bool (va==1)))] 0 (by rfl) (by kernel_rfl) (by kernel_rfl) ?hv2 (HY0.o) ?rs2
   case hv2=>intro wz hSz;have hx0:=hSz;exact uDc
   exact uHn
  have q26:(kind==26)=false:=nB k26;by_cases k11:kind=11
  case pos =>
   subst k11;have hrt:=HR.o;unfold zY1 at hrt;rw[if_neg (by decide),if_neg (by decide),if_pos (by decide)] at hrt
   obtain⟨va,vb,rest,he⟩:∃va vb rest,es=va::vb::rest:=by
    match es,hrt with
    | [],hrt=>exact absurd hrt.symm HNB.o
    | [_],hrt=>exact absurd hrt.symm HNB.o
    | va::vb::rest,_=>exact⟨va,vb,rest,rfl⟩
   have hln:2≤es.length:=by rw[he];simp
   obtain⟨b0,o0,e0,y0⟩:=zOD HXX.o 0 (by omega);rw[show es.getD 0 0=va by rw[he];rfl] at y0;subst e0;obtain⟨b1,o1,e1,y1⟩:=zOD HXX.o 1 (by omega);rw[show es.getD 1 0=vb by rw[he];rfl] at y1;injection e1 with e1;injection e1 with e1 e1';subst e1;subst e1';rw[he] at hrt;try simp only at hrt
   replace HR:=hI hrt;have k10:(0:Int)<(es.length:Int):=by omega
   have k11:(1:Int)<(es.length:Int):=by omega
   clear hrt hln he HXX;simp only[Nat.add_zero] at y0;generalize es.length=ln at *;have kz:¬ln=0:=by omega
   go_upto_region 12 with (fail);refine wL (fun w'=>w'.cell? ⟨b0,o0,none⟩=some (.int .i64 va)∧w'.cell? ⟨b0,o0+1,none⟩=some (.int .i64 vb)) 99 ?_;have HY0:Jd (wr.drew.cell? ⟨b0,o0,none⟩=some (.int .i64 va)):=hI y0;have HY1:Jd (wr.drew.cell? ⟨b0,o0+1,none⟩=some (.int .i64 vb)):=hI y1;clear y0 y1;replace HF:=hI HF.o.drew;generalize wr.drew=w70 at *;refine zY (by kernel_rfl) (fun _ _ _ _ _ h=>h) [(0,some 46,some (.slice (some ⟨b0,o0,none⟩) ln c)),(1,some 47,some (.pointer (some ⟨b0,o0,none⟩))),(2,some 48,some (.int .i64 va)),(3,some 49,some (.slice (some ⟨b0,o0,none⟩) ln c)),(4,some 50,some (.pointer (some ⟨b0,o0,none⟩))),(5,some 51,some (.int .i64 va)),(6,some 52,some (.slice (some ⟨b0,o0,none⟩) ln c)),(7,some 53,some (.pointer (some ⟨b0,o0+1,none⟩))),(8,some 54,some (.int .i64 vb)),(9,some 55,some (.bool (va==vb))),(10,some 4,some (.int .i64 va)),(11,some 5,some (.bool (va==vb)))] 0 (by rfl) (by kernel_rfl) (by kernel_rfl) ?hv3 (⟨HY0.o,HY1.o⟩) ?rs3
   case hv3=>exact uZ9
   exact uHn
  have q11:(kind==11)=false:=nB k11;by_cases k12:kind=12
  case pos =>
   subst k12;have hrt:=HR.o;unfold zY1 at hrt;rw[if_neg (by decide),if_neg (by decide),if_pos (by decide)] at hrt
   obtain⟨va,vb,rest,he⟩:∃va vb rest,es=va::vb::rest:=by
    match es,hrt with
    | [],hrt=>exact absurd hrt.symm HNB.o
    | [_],hrt=>exact absurd hrt.symm HNB.o
    | va::vb::rest,_=>exact⟨va,vb,rest,rfl⟩
   have hln:2≤es.length:=by rw[he];simp
   obtain⟨b0,o0,e0,y0⟩:=zOD HXX.o 0 (by omega);rw[show es.getD 0 0=va by rw[he];rfl] at y0;subst e0;obtain⟨b1,o1,e1,y1⟩:=zOD HXX.o 1 (by omega);rw[show es.getD 1 0=vb by rw[he];rfl] at y1;injection e1 with e1;injection e1 with e1 e1';subst e1;subst e1';rw[he] at hrt;try simp only at hrt
   replace HR:=hI hrt;have k10:(0:Int)<(es.length:Int):=by omega
   have k11:(1:Int)<(es.length:Int):=by omega
   clear hrt hln he HXX;simp only[Nat.add_zero] at y0;generalize es.length=ln at *;have kz:¬ln=0:=by omega
   go_upto_region 12 with (fail);refine wL (fun w'=>w'.cell? ⟨b0,o0,none⟩=some (.int .i64 va)∧w'.cell? ⟨b0,o0+1,none⟩=some (.int .i64 vb)) 99 ?_;have HY0:Jd (wr.drew.cell? ⟨b0,o0,none⟩=some (.int .i64 va)):=hI y0;have HY1:Jd (wr.drew.cell? ⟨b0,o0+1,none⟩=some (.int .i64 vb)):=hI y1;clear y0 y1;replace HF:=hI HF.o.drew;generalize wr.drew=w70 at *;refine zY (by kernel_rfl) (fun _ _ _ _ _ h=>h) [(0,some 46,some (.slice (some ⟨b0,o0,none⟩) ln c)),(1,some 47,some (.pointer (some ⟨b0,o0,none⟩))),(2,some 48,some (.int .i64 va)),(3,some 49,some (.slice (some ⟨b0,o0,none⟩) ln c)),(4,some 50,some (.pointer (some ⟨b0,o0,none⟩))),(5,some 51,some (.int .i64 va)),(6,some 52,some (.slice (some ⟨b0,o0,none⟩) ln c)),(7,some 53,some (.pointer (some ⟨b0,o0+1,none⟩))),(8,some 54,some (.int .i64 vb)),(9,some 55,some (.bool (va==vb))),(10,some 4,some (.int .i64 va)),(11,some 5,some (.bool (va==vb)))] 0 (by rfl) (by kernel_rfl) (by kernel_rfl) ?hv4 (⟨HY0.o,HY1.o⟩) ?rs4
   case hv4=>exact uZ9
   exact uHn
  have q12:(kind==12)=false:=nB k12;by_cases k13:kind=13
  case pos =>
   subst k13;have hrt:=HR.o;unfold zY1 at hrt;rw[if_neg (by decide),if_neg (by decide),if_pos (by decide)] at hrt
   obtain⟨va,vb,rest,he⟩:∃va vb rest,es=va::vb::rest:=by
    match es,hrt with
    | [],hrt=>exact absurd hrt.symm HNB.o
    | [_],hrt=>exact absurd hrt.symm HNB.o
    | va::vb::rest,_=>exact⟨va,vb,rest,rfl⟩
   have hln:2≤es.length:=by rw[he];simp
   obtain⟨b0,o0,e0,y0⟩:=zOD HXX.o 0 (by omega);rw[show es.getD 0 0=va by rw[he];rfl] at y0;subst e0;obtain⟨b1,o1,e1,y1⟩:=zOD HXX.o 1 (by omega);rw[show es.getD 1 0=vb by rw[he];rfl] at y1;injection e1 with e1;injection e1 with e1 e1';subst e1;subst e1';rw[he] at hrt;try simp only at hrt
   replace HR:=hI hrt;have k10:(0:Int)<(es.length:Int):=by omega
   have k11:(1:Int)<(es.length:Int):=by omega
   clear hrt hln he HXX;simp only[Nat.add_zero] at y0;generalize es.length=ln at *;have kz:¬ln=0:=by omega
   go_upto_region 12 with (fail);refine wL (fun w'=>w'.cell? ⟨b0,o0,none⟩=some (.int .i64 va)∧w'.cell? ⟨b0,o0+1,none⟩=some (.int .i64 vb)) 99 ?_;have HY0:Jd (wr.drew.cell? ⟨b0,o0,none⟩=some (.int .i64 va)):=hI y0;have HY1:Jd (wr.drew.cell? ⟨b0,o0+1,none⟩=some (.int .i64 vb)):=hI y1;clear y0 y1;replace HF:=hI HF.o.drew;generalize wr.drew=w70 at *;refine zY (by kernel_rfl) (fun _ _ _ _ _ h=>h) [(0,some 46,some (.slice (some ⟨b0,o0,none⟩) ln c)),(1,some 47,some (.pointer (some ⟨b0,o0,none⟩))),(2,some 48,some (.int .i64 va)),(3,some 49,some (.slice (some ⟨b0,o0,none⟩) ln c)),(4,some 50,some (.pointer (some ⟨b0,o0,none⟩))),(5,some 51,some (.int .i64 va)),(6,some 52,some (.slice (some ⟨b0,o0,none⟩) ln c)),(7,some 53,some (.pointer (some ⟨b0,o0+1,none⟩))),(8,some 54,some (.int .i64 vb)),(9,some 55,some (.bool (va==vb))),(10,some 4,some (.int .i64 va)),(11,some 5,some (.bool (va==vb)))] 0 (by rfl) (by kernel_rfl) (by kernel_rfl) ?hv5 (⟨HY0.o,HY1.o⟩) ?rs5
   case hv5=>exact uZ9
   exact uHn
  have q13:(kind==13)=false:=nB k13;by_cases k25:kind=25
  case pos =>
   subst k25;have hrt:=HR.o;unfold zY1 at hrt;rw[if_neg (by decide),if_neg (by decide),if_neg (by decide),if_pos rfl] at hrt
   obtain⟨va,vb,vc,rest,he⟩:∃va vb vc rest,es=va::vb::vc::rest:=by
    match es,hrt with
    | [],hrt=>exact absurd hrt.symm HNB.o
    | [_],hrt=>exact absurd hrt.symm HNB.o
    | [_,_],hrt=>exact absurd hrt.symm HNB.o
    | va::vb::vc::rest,_=>exact⟨va,vb,vc,rest,rfl⟩
   have hln:3≤es.length:=by rw[he];simp
   obtain⟨b0,o0,e0,y0⟩:=zOD HXX.o 0 (by omega);rw[show es.getD 0 0=va by rw[he];rfl] at y0;subst e0;obtain⟨b1,o1,e1,y1⟩:=zOD HXX.o 1 (by omega);rw[show es.getD 1 0=vb by rw[he];rfl] at y1;injection e1 with e1;injection e1 with e1 e1';subst e1;subst e1';obtain⟨b2,o2,e2,y2⟩:=zOD HXX.o 2 (by omega);rw[show es.getD 2 0=vc by rw[he];rfl] at y2;injection e2 with e2;injection e2 with e2 e2';subst e2;subst e2';rw[he] at hrt;try simp only at hrt
   replace HR:=hI hrt;have k10:(0:Int)<(es.length:Int):=by omega
   have k11:(1:Int)<(es.length:Int):=by omega
   have k12:(2:Int)<(es.length:Int):=by omega
   clear hrt hln he HXX;simp only[Nat.add_zero] at y0;generalize es.length=ln at *;have kz:¬ln=0:=by omega
   by_cases h1:va=1
   case neg =>
    have q1:(va==1)=false:=nB h1;go_upto_region 14 with (fail);refine wL (fun w'=>w'.cell? ⟨b0,o0,none⟩=some (.int .i64 va)∧w'.cell? ⟨b0,o0+1,none⟩=some (.int .i64 vb)∧w'.cell? ⟨b0,o0+2,none⟩=some (.int .i64 vc)) 99 ?_;have HY0:Jd (wr.drew.cell? ⟨b0,o0,none⟩=some (.int .i64 va)):=hI y0;have HY1:Jd (wr.drew.cell? ⟨b0,o0+1,none⟩=some (.int .i64 vb)):=hI y1;have HY2:Jd (wr.drew.cell? ⟨b0,o0+2,none⟩=some (.int .i64 vc)):=hI y2;clear y0 y1 y2;replace HF:=hI HF.o.drew;generalize wr.drew=w70 at *;refine zY (by kernel_rfl) (fun _ _ _ _ _ h=>h) [(0,some 59,some (.slice (some ⟨b0,o0,none⟩) ln c)),(1,some 60,some (.pointer (some ⟨b0,o0+1,none⟩))),(2,some 61,some (.int .i64 vb)),(3,some 62,some (.slice (some ⟨b0,o0,none⟩) ln c)),(4,some 63,some (.pointer (some ⟨b0,o0,none⟩))),(5,some 64,some (.int .i64 va)),(6,some 65,some (.bool false)),(7,some 66,some (.bool false)),(8,some 67,none),(9,some 68,none),(10,some 69,none),(11,some 70,none),(12,some 71,none),(13,some 72,none),(14,some 73,none),(15,some 74,some (.bool false)),(16,some 4,some (.int .i64 vb)),(17,some 5,some (.bool false))] 0 (by rfl) (by kernel_rfl) (by kernel_rfl) ?hv6 (⟨HY0.o,HY1.o,HY2.o⟩) ?rs6
    case hv6=>intro wz hSz;obtain⟨hx0,hx1,hx2⟩:=hSz;refine⟨zQ rfl ?_,zQ rfl ?_,zQ rfl ?_,zQ rfl ?_,zQ rfl ?_,zQ rfl ?_,zQ rfl ?_,zQ rfl ?_,trivial,trivial,trivial,trivial,trivial,trivial,trivial,zQ rfl ?_,zQ rfl ?_,zQ rfl ?_,trivial⟩;all_goals (simp only[Act.put,pA,pB,pC,Option.getD];go_simp)
    try simp only[zy,zW,Act.put,pA,pB,pC,Option.getD]
    refine wD ?_ _;go_wp2_with fail;exact zn.ok_ HPO.o HR.o (by simp[RMd,h1]) HF.o.kp
   subst h1;go_upto_region 14 with (fail);refine wL (fun w'=>w'.cell? ⟨b0,o0,none⟩=some (.int .i64 1)∧w'.cell? ⟨b0,o0+1,none⟩=some (.int .i64 vb)∧w'.cell? ⟨b0,o0+2,none⟩=some (.int .i64 vc)) 99 ?_;have HY0:Jd (wr.drew.cell? ⟨b0,o0,none⟩=some (.int .i64 1)):=hI y0;have HY1:Jd (wr.drew.cell? ⟨b0,o0+1,none⟩=some (.int .i64 vb)):=hI y1;have HY2:Jd (wr.drew.cell? ⟨b0,o0+2,none⟩=some (.int .i64 vc)):=hI y2;clear y0 y1 y2;replace HF:=hI HF.o.drew;generalize wr.drew=w70 at *;refine zY (by kernel_rfl) (fun _ _ _ _ _ h=>h) [(0,some 59,some (.slice (some ⟨b0,o0,none⟩) ln c)),(1,some 60,some (.pointer (some ⟨b0,o0+1,none⟩))),(2,some 61,some (.int .i64 vb)),(3,some 62,some (.slice (some ⟨b0,o0,none⟩) ln c)),(4,some 63,some (.pointer (some ⟨b0,o0,none⟩))),(5,some 64,some (.int .i64 1)),(6,some 65,some (.bool true)),(7,some 66,some (.bool true)),(8,some 67,some (.slice (some ⟨b0,o0,none⟩) ln c)),(9,some 68,some (.pointer (some ⟨b0,o0+1,none⟩))),(10,some 69,some (.int .i64 vb)),(11,some 70,some (.slice (some ⟨b0,o0,none⟩) ln c)),(12,some 71,some (.pointer (some ⟨b0,o0+2,none⟩))),(13,some 72,some (.int .i64 vc)),(14,some 73,some (.bool (vb==vc))),(15,some 74,some (.bool (vb==vc))),(16,some 4,some (.int .i64 vb)),(17,some 5,some (.bool (vb==vc)))] 0 (by rfl) (by kernel_rfl) (by kernel_rfl) ?hv7 (⟨HY0.o,HY1.o,HY2.o⟩) ?rs7
   case hv7=>intro wz hSz;obtain⟨hx0,hx1,hx2⟩:=hSz;refine⟨zQ rfl ?_,zQ rfl ?_,zQ rfl ?_,zQ rfl ?_,zQ rfl ?_,zQ rfl ?_,zQ rfl ?_,zQ rfl ?_,zQ rfl ?_,zQ rfl ?_,zQ rfl ?_,zQ rfl ?_,zQ rfl ?_,zQ rfl ?_,zQ rfl ?_,zQ rfl ?_,zQ rfl ?_,zQ rfl ?_,trivial⟩;all_goals (simp only[Act.put,pA,pB,pC,Option.getD];go_simp)
   try simp only[zy,zW,Act.put,pA,pB,pC,Option.getD]
   refine wD ?_ _;go_wp2_with fail;exact zn.ok_ HPO.o HR.o (by simp only[RMd,decide_true,Bool.true_and];rfl) HF.o.kp
  have q25:(kind==25)=false:=nB k25;have hrt:=HR.o;unfold zY1 at hrt;rw[if_neg k7,if_neg k26,if_neg (by omega),if_neg k25] at hrt;generalize es.all (fun e=>decide (e=0))=al at *;by_cases h1:17≤kind
  case pos =>
   by_cases h2:kind≤22
   case pos=>rw[if_pos ⟨h1,h2⟩] at hrt;exact uNp
   rw[if_neg (by omega)] at hrt;exact uNp
  rw[if_neg (by omega)] at hrt;exact uNp
section
variable {G:TGam} {K:TKs} {L:List ByteArray} {M:World} {N fb:Nat} {g:TFu} {n nb q:Nat} {w:World}
section
variable {p:Prop}
theorem uRO (h:p:=by
 refine⟨zQ rfl ?_,zQ rfl ?_,zQ rfl ?_,zQ rfl ?_,zQ rfl ?_,zQ rfl ?_,zQ rfl ?_,zQ rfl ?_,zQ rfl ?_,trivial⟩;all_goals (simp only[Act.put,pA,pB,pC,Option.getD];go_simp)):p:=h
theorem uIy (h:p:=by
 refine⟨zQ rfl ?_,zQ rfl ?_,zQ rfl ?_,trivial⟩;all_goals (simp only[Act.put,pA,pB,pC,Option.getD];go_simp)):p:=h
end
theorem zbY (a b c:Int) (d:Bool) (W:World):(Instr.field 183 (.agg #[a,b,c,d]) 0).run Tryz.prog W=.ok (.agg #[a,b,c]) W:=by kernel_rfl
theorem zCl (a b c:Int) (W:World):(Instr.field 41 (.agg #[a,b,c]) 2).run Tryz.prog W=.ok (.int .i64 c) W:=by kernel_rfl
theorem zbW {T U:Type} (b:Bool) (r:TR T) (f:T→TR U):(tIf b r).bind f=tIf b (r.bind f):=by cases b <;> rfl
theorem z3e  (kind pos num:Int) (name:ByteArray) (args:List TEx) (A:Option Addr) (c m:Nat) (hk:kind=1) (h:CkAt M w q fb nb N L K G g) (hn:name.size≤65536) (ha:args.length≤65536) (hx:zj (zO m) M M.heap.size (.slice A args.length c) args) (hb:zi (n+1) K G (.mk kind pos num name args)≠.bad) :
  Calls Tryz.prog 116 #[.pointer (some ⟨q,0,none⟩),.agg #[kind,pos,num,name,.slice A args.length c]] w (zn noS w RTyV (zi (n+1) K G (.mk kind pos num name args))):=by
 subst hk;have HN:=hI hn;have HA:=hI ha;have HXX:=hI hx;have HLT:=hI h.lt;have HF:=hI (((Frm.start (S:=noS) w (fun _ h=>h.elim)).alloc 153 [.int .i64 1,pos,num,name,.slice A args.length c]).allocN (w.heap.size+1) (by simp) 41 [.int .i64 0,.int .i64 0,.int .i64 0]);have HK:=hI ((h.below (bnew w (.cells #[.int .i64 1,pos,num,name,.slice A args.length c] 153))).below (bnew (w.alloc (.cells #[.int .i64 1,pos,num,name,.slice A args.length c] 153)) (.cells #[.int .i64 0,.int .i64 0,.int .i64 0] 41)));obtain⟨r,hr⟩:∃r,zi (n+1) K G (.mk 1 pos num name args)=r:=⟨_,rfl⟩
 rw[hr] at hb ⊢;have HR:=hI hr;have HNB:=hI hb;generalize hPO:zn noS w RTyV r=PO;have HPO:=hI hPO;clear hr hPO hb h hn ha hx;go_enter Tryz.func116,Tryz.ntmps116;go_upto_region 1 with (fail);generalize ((w.alloc _).alloc _)=v1 at *;generalize w.heap.size+1=R at HF ⊢;generalize w.heap.size=X at HF ⊢;unfold zi at HR;rw[if_pos rfl] at HR;have x_:=blk5 (HF.o.at_ 1 rfl);have rf_:=frz3 (HF.o.at_ 0 rfl);have r_:=blk3 (HF.o.at_ 0 rfl);go_wp2_with fail;clear x_ rf_ r_;change bodyPost _ _ _ _ _ (setL v1 R 0 [.int .i64 0,.int .i64 0,.int .i64 0]);replace HF:=hI (HF.o.fill 0 rfl [.int .i64 0,.int .i64 0,.int .i64 0] rfl);generalize setL v1 R 0 _=v1 at *;have r_:=blk3 (HF.o.at_ 0 rfl);refine bodyPost_ret (v:=.agg #[.int .i64 0,.int .i64 0,.int .i64 0]) (by simp[results,Tryz.results116,go_sem,r_];try rfl) rfl ?_;exact uS3
theorem z03  (kind pos num:Int) (name:ByteArray) (args:List TEx) (A:Option Addr) (c m:Nat) (hk:kind=2) (h:CkAt M w q fb nb N L K G g) (hn:name.size≤65536) (ha:args.length≤65536) (hx:zj (zO m) M M.heap.size (.slice A args.length c) args) (hb:zi (n+1) K G (.mk kind pos num name args)≠.bad) :
  Calls Tryz.prog 116 #[.pointer (some ⟨q,0,none⟩),.agg #[kind,pos,num,name,.slice A args.length c]] w (zn noS w RTyV (zi (n+1) K G (.mk kind pos num name args))):=by
 subst hk;have HN:=hI hn;have HA:=hI ha;have HXX:=hI hx;have HLT:=hI h.lt;have HF:=hI (((Frm.start (S:=noS) w (fun _ h=>h.elim)).alloc 153 [.int .i64 2,pos,num,name,.slice A args.length c]).allocN (w.heap.size+1) (by simp) 41 [.int .i64 0,.int .i64 0,.int .i64 0]);have HK:=hI ((h.below (bnew w (.cells #[.int .i64 2,pos,num,name,.slice A args.length c] 153))).below (bnew (w.alloc (.cells #[.int .i64 2,pos,num,name,.slice A args.length c] 153)) (.cells #[.int .i64 0,.int .i64 0,.int .i64 0] 41)));obtain⟨r,hr⟩:∃r,zi (n+1) K G (.mk 2 pos num name args)=r:=⟨_,rfl⟩
 rw[hr] at hb ⊢;have HR:=hI hr;have HNB:=hI hb;generalize hPO:zn noS w RTyV r=PO;have HPO:=hI hPO;clear hr hPO hb h hn ha hx;go_enter Tryz.func116,Tryz.ntmps116;go_upto_region 1 with (fail);generalize ((w.alloc _).alloc _)=v1 at *;generalize w.heap.size+1=R at HF ⊢;generalize w.heap.size=X at HF ⊢;unfold zi at HR;rw[if_neg (by decide),if_pos rfl] at HR;have HC:=hI (zug HK.o name HN.o pos);have x_:=blk5 (HF.o.at_ 1 rfl);go_wp2_with fail;refine (HC.o).mono ?_;intro e v1 hpost;rcases hpost.cases (nbL HR.o HNB.o) with⟨t,hq,u,rfl,hR,hk⟩ | ⟨hq,E,P,rfl,hE,hk⟩
 case inr=>exact uGY
 replace HF:=hI (HF.o.call hk);replace HK:=hI (HK.o.below (kb hk));have hrt:=brO HR.o hq;try simp only at hrt
 replace HR:=hI hrt;obtain⟨⟨te,tl,tb⟩,fx⟩:=t;obtain rfl:u=zkH ⟨⟨te,tl,tb⟩,fx⟩:=hR;unfold zkH;clear HC;clear hk hq hrt x_;go_upto_region 6 with (fail);replace HF:=hI (HF.o.alloc 183 [te,tl,tb,fx]);replace HK:=hI (HK.o.below (bw HF));generalize v1.alloc _=v2 at *;generalize v1.heap.size=Z at HF ⊢;have x_:=blk5 (HF.o.at_ 2 rfl);have z_:=blk4 (HF.o.at_ 0 rfl);go_wp2_with fail;refine (zf (decide (tl=0)) rfl _ _ _).mono ?_;rintro e wz ⟨rfl,⟨hb,rfl⟩ | ⟨hb,rfl⟩⟩
 · have HRT:=hI (ifT HR.o hb);clear hb x_ z_;exact uQp
 replace HR:=hI (ifO HR.o hb);clear hb;clear x_ z_;have z_:=blk4 (HF.o.at_ 0 rfl);have rf_:=frz3 (HF.o.at_ 1 rfl);have r_:=blk3 (HF.o.at_ 1 rfl);go_wp2_with fail;clear z_ rf_ r_;change bodyPost _ _ _ _ _ (setL v2 R 0 [te,tl,tb]);replace HF:=hI (HF.o.fill 1 rfl [te,tl,tb] rfl);generalize setL v2 R 0 _=v1 at *;have r_:=blk3 (HF.o.at_ 1 rfl);refine bodyPost_ret (v:=.agg #[te,tl,tb]) (by simp[results,Tryz.results116,go_sem,r_];try rfl) rfl ?_;exact uS3
theorem zGb (hv:VW n) (kind pos num:Int) (name:ByteArray) (args:List TEx) (A:Option Addr) (c m:Nat) (hk:kind=3) (h:CkAt M w q fb nb N L K G g) (hn:name.size≤65536) (ha:args.length≤65536) (hx:zj (zO m) M M.heap.size (.slice A args.length c) args) (hb:zi (n+1) K G (.mk kind pos num name args)≠.bad) :
  Calls Tryz.prog 116 #[.pointer (some ⟨q,0,none⟩),.agg #[kind,pos,num,name,.slice A args.length c]] w (zn noS w RTyV (zi (n+1) K G (.mk kind pos num name args))):=by
 have HV:=hI hv;clear hv;subst hk;have HN:=hI hn;have HA:=hI ha;have HXX:=hI hx;have HLT:=hI h.lt;have HF:=hI (((Frm.start (S:=noS) w (fun _ h=>h.elim)).alloc 153 [.int .i64 3,pos,num,name,.slice A args.length c]).allocN (w.heap.size+1) (by simp) 41 [.int .i64 0,.int .i64 0,.int .i64 0]);have HK:=hI ((h.below (bnew w (.cells #[.int .i64 3,pos,num,name,.slice A args.length c] 153))).below (bnew (w.alloc (.cells #[.int .i64 3,pos,num,name,.slice A args.length c] 153)) (.cells #[.int .i64 0,.int .i64 0,.int .i64 0] 41)));obtain⟨r,hr⟩:∃r,zi (n+1) K G (.mk 3 pos num name args)=r:=⟨_,rfl⟩
 rw[hr] at hb ⊢;have HR:=hI hr;have HNB:=hI hb;generalize hPO:zn noS w RTyV r=PO;have HPO:=hI hPO;clear hr hPO hb h hn ha hx;go_enter Tryz.func116,Tryz.ntmps116;go_upto_region 1 with (fail);generalize ((w.alloc _).alloc _)=v1 at *;generalize w.heap.size+1=R at HF ⊢;generalize w.heap.size=X at HF ⊢;unfold zi at HR;rw[if_neg (by decide),if_neg (by decide),if_pos rfl] at HR;cases args with
 | nil=>exact absurd HR.o.symm HNB.o
 | cons x xs =>
  obtain⟨m2,xb,xoff,Ax,cx,rfl,hxs,hxr,hxc⟩:=zlT HXX.o 0 (by simp);simp only[List.getD_cons_zero,Nat.zero_mul,Nat.add_zero] at hxs hxr hxc;obtain⟨kx,px,nx,sx,ax⟩:=x;simp only[TEx.kind,TEx.pos,TEx.num,TEx.name,TEx.args] at hxc;have HXC:=hI hxc;have HXS:=hI hxs;have HXR:=hI hxr;clear hxs hxr hxc;have HR3:Jd (((zFK (fun x=>zi n K G x) (.mk kx px nx sx ax) 0).bind fun _=>(zg1 G name).bind fun t=>tIf (decide (0<t.kind.len)) (.ok t)).bind (fun t=>.ok ⟨0,0,t.kind.label⟩)=r):=hI (by rw[←HR.o,zv9];congr 1;funext _;rw[zv9];congr 1;funext t;rw[zbW];rfl);clear HR;have HR:=HR3;clear HR3;have k1:(0:Int)<(((TEx.mk kx px nx sx ax::xs).length:Nat):Int):=by rw[List.length_cons];omega
  have kz:¬(TEx.mk kx px nx sx ax::xs).length=0:=by simp
  generalize (TEx.mk kx px nx sx ax::xs).length=ln at *;have x_:=blk5 (HF.o.at_ 1 rfl);go_upto_region 9 with (fail);clear x_;refine wL (fun w'=>w'.heap[X]? = some (.cells #[.int .i64 3,pos,num,name,.slice (some ⟨xb,xoff,none⟩) ln c] 153 (0,0))∧Below M.heap.size M w') 99 ?_;replace HK:=hI (HK.o.below (bdr (Below.refl _ _)));replace HF:=hI HF.o.drew;generalize v1.drew=v1 at *;refine zY (by kernel_rfl) (fun _ _ _ _ _ h=>h) [(0,some 38,some (.pointer (some ⟨q,0,none⟩))),(1,some 39,some (.pointer (some ⟨X,3,none⟩))),(2,some 40,some (.string name)),(3,some 41,some (.pointer (some ⟨X,4,none⟩))),(4,some 42,some (.slice (some ⟨xb,xoff,none⟩) ln c)),(5,some 43,some (.pointer (some ⟨xb,xoff,none⟩))),(6,some 44,some (.agg #[kx,px,nx,sx,.slice Ax ax.length cx])),(7,some 45,some (.pointer (some ⟨X,1,none⟩))),(8,some 46,some (.int .i64 pos))] 5 (by rfl) (by kernel_rfl) (by kernel_rfl) ?hv1 (⟨HF.o.at_ 1 rfl,HK.o.old⟩) ?rs1
  case hv1=>intro wz hSz;obtain⟨hXs,hx0⟩:=hSz;have cX3:=(zz hXs 3).1;have cX4:=(zz hXs 4).1;obtain⟨d0,d1,d2,d3,d4⟩:=HXC.o wz hx0;have cX1:=(zz hXs 1).1;exact uRO
  try simp only[zy,zW,Act.put,pA,pB,pC,Option.getD]
  refine wone 9 fun K hK=>?_;go_simp;clear k1 kz;refine (zmi HV.o name kx px nx pos sx ax Ax cx m2 HK.o HN.o HXS.o.1 HXS.o.2 HXR.o (nbL HR.o HNB.o)).mono ?_;intro e v1 hpost;rcases hpost.cases (nbL HR.o HNB.o) with⟨t,hq,u,rfl,hR,hk⟩ | ⟨hq,E,P,rfl,hE,hk⟩
  case inr=>exact uGY
  replace HF:=hI (HF.o.call hk);replace HK:=hI (HK.o.below (kb hk));have hrt:=brO HR.o hq;try simp only at hrt
  replace HR:=hI hrt;obtain⟨⟨te,tl,tb⟩,fx⟩:=t;obtain rfl:u=zkH ⟨⟨te,tl,tb⟩,fx⟩:=hR;unfold zkH;clear hk hq hrt;refine hK.o _ _ (fun _=>⟨HF.o.at_ 1 rfl,HK.o.old⟩) ?_;clear hK;try simp only[]
  refine zY (by kernel_rfl) (fun _ _ _ _ _ h=>h) [(10,some 48,some (.agg #[te,tl,tb])),(11,some 49,some (.int .i64 tb)),(12,some 50,some (.agg #[.int .i64 0,.int .i64 0,tb]))] 1 (by rfl) (by kernel_rfl) (by kernel_rfl) ?hv2 (⟨HF.o.at_ 1 rfl,HK.o.old⟩) ?rs2
  case hv2=>intro wz hSz;obtain⟨hXs,hx0⟩:=hSz;have g0:=zbY te tl tb fx wz;have g1:=zCl te tl tb wz;exact uIy
  try simp only[zy,zW,Act.put,pA,pB,pC,Option.getD]
  have rf_:=frz3 (HF.o.at_ 0 rfl);have r_:=blk3 (HF.o.at_ 0 rfl);refine wone 13 fun K hK=>?_;go_simp;replace HK:=hI (HK.o.own HLT.o (HF.o.lo 0 rfl) (zC R [.int .i64 0,.int .i64 0,tb] v1 0));replace HF:=hI (HF.o.fill 0 rfl [.int .i64 0,.int .i64 0,tb] rfl);refine hK.o _ (setL v1 R 0 [.int .i64 0,.int .i64 0,tb]) (fun _=>⟨HF.o.at_ 1 rfl,HK.o.old⟩) ?_;clear hK rf_ r_;generalize setL v1 R 0 _=v1 at *;refine wD ?_ _;go_wp2_with fail;have r_:=blk3 (HF.o.at_ 0 rfl);refine bodyPost_ret (v:=.agg #[.int .i64 0,.int .i64 0,tb]) (by simp[results,Tryz.results116,go_sem,r_];try rfl) rfl ?_;exact uS3
theorem zJ5 (hc:CW n) (kind pos num:Int) (name:ByteArray) (args:List TEx) (A:Option Addr) (c m:Nat) (hk:kind=4) (h:CkAt M w q fb nb N L K G g) (hn:name.size≤65536) (ha:args.length≤65536) (hx:zj (zO m) M M.heap.size (.slice A args.length c) args) (hb:zi (n+1) K G (.mk kind pos num name args)≠.bad) :
  Calls Tryz.prog 116 #[.pointer (some ⟨q,0,none⟩),.agg #[kind,pos,num,name,.slice A args.length c]] w (zn noS w RTyV (zi (n+1) K G (.mk kind pos num name args))):=by
 have HV:=hI hc;clear hc;subst hk;have HN:=hI hn;have HA:=hI ha;have HXX:=hI hx;have HLT:=hI h.lt;have HF:=hI (((Frm.start (S:=noS) w (fun _ h=>h.elim)).alloc 153 [.int .i64 4,pos,num,name,.slice A args.length c]).allocN (w.heap.size+1) (by simp) 41 [.int .i64 0,.int .i64 0,.int .i64 0]);have HK:=hI ((h.below (bnew w (.cells #[.int .i64 4,pos,num,name,.slice A args.length c] 153))).below (bnew (w.alloc (.cells #[.int .i64 4,pos,num,name,.slice A args.length c] 153)) (.cells #[.int .i64 0,.int .i64 0,.int .i64 0] 41)));obtain⟨r,hr⟩:∃r,zi (n+1) K G (.mk 4 pos num name args)=r:=⟨_,rfl⟩
 rw[hr] at hb ⊢;have HR:=hI hr;have HNB:=hI hb;generalize hPO:zn noS w RTyV r=PO;have HPO:=hI hPO;clear hr hPO hb h hn ha hx;go_enter Tryz.func116,Tryz.ntmps116;go_upto_region 1 with (fail);generalize ((w.alloc _).alloc _)=v1 at *;generalize w.heap.size+1=R at HF ⊢;generalize w.heap.size=X at HF ⊢;unfold zi at HR;rw[if_neg (by decide),if_neg (by decide),if_neg (by decide),if_pos rfl] at HR;have HC:=hI (HV.o _ _ _ _ _ _ _ _ _ _ 4 pos num name args A c m HK.o HN.o HA.o HXX.o (nbL HR.o HNB.o));have x_:=blk5 (HF.o.at_ 1 rfl);go_wp2_with fail;refine (HC.o).mono ?_;intro e v1 hpost;rcases hpost.cases (nbL HR.o HNB.o) with⟨f,hq,u,rfl,hR,hk⟩ | ⟨hq,E,P,rfl,hE,hk⟩
 case inr=>exact uGY
 replace HF:=hI (HF.o.call hk);replace HK:=hI (HK.o.below (kb hk));have hrt:=brO HR.o hq;try simp only at hrt
 replace HR:=hI hrt;obtain⟨A1,c1,A2,c2,rfl⟩:=hR;unfold zPe;clear HC;clear hk hq hrt x_;go_upto_region 12 with (fail);replace HF:=hI (HF.o.alloc 61 [f.pos,f.name,.slice A1 f.params.length c1,f.has,f.res.elem,f.res.len,f.res.label,.slice A2 f.body.length c2]);replace HK:=hI (HK.o.below (bw HF));generalize v1.alloc _=v2 at *;generalize v1.heap.size=Z at HF ⊢;have x_:=blk5 (HF.o.at_ 2 rfl);have z_:=blk8 (HF.o.at_ 0 rfl);go_wp2_with fail;refine (zf (f.has) rfl _ _ _).mono ?_;rintro e wz ⟨rfl,⟨hb,rfl⟩ | ⟨hb,rfl⟩⟩
 · have HRT:=hI (ifT HR.o hb);clear hb x_ z_;exact uQp
 replace HR:=hI (ifO HR.o hb);clear hb;clear x_ z_;have z_:=blk8 (HF.o.at_ 0 rfl);have rf_:=frz3 (HF.o.at_ 1 rfl);have r_:=blk3 (HF.o.at_ 1 rfl);go_wp2_with fail;clear z_ rf_ r_;change bodyPost _ _ _ _ _ (setL v2 R 0 [f.res.elem,f.res.len,f.res.label]);replace HF:=hI (HF.o.fill 1 rfl [f.res.elem,f.res.len,f.res.label] rfl);generalize setL v2 R 0 _=v1 at *;have r_:=blk3 (HF.o.at_ 1 rfl);refine bodyPost_ret (v:=.agg #[f.res.elem,f.res.len,f.res.label]) (by simp[results,Tryz.results116,go_sem,r_];try rfl) rfl ?_;exact uS3
end
section
variable {G:TGam} {K:TKs} {L:List ByteArray} {M:World} {N fb:Nat} {g:TFu} {n nb q:Nat} {w:World}
section
variable {p:Prop}
theorem uCX (h:p:=by
 have HRT:=hI (ifT HR.o hb);clear hb x_;exact uQp):p:=h
end
section
variable {T:Type} {E:Enc T} {hE:zOH E} {S:Nat→Prop} {W w w':World} {t:TypeId} {v:Value} {l:List T} {b:Nat×TypeId×List Value} {bs:List (Nat×TypeId×List Value)}
theorem RowF.tail (h:RowF hE S W w t v l (b::bs) []):RowF hE S W w t v l bs []:=by
 rcases h with⟨h1,h2,h⟩ | ⟨g,cap,cells,cs,h1,h2,h3,h4,h⟩
 · exact Or.inl ⟨h1,h2,h.tail⟩
 exact Or.inr ⟨g,cap,cells,cs,h1,h2,h3,h4,h.less ((List.sublist_cons_self b bs).cons_cons _) (fun T hT=>hT)⟩
theorem RowF.rep (h:RowF hE S W w t v l bs []):zj E w w.heap.size v l:=by
 have h1:=h.done.tr _ (List.mem_cons_self ..);exact zj.some_ hE h1 (Nat.le_refl _) (fun p u _ hc=>(z17 hc).2.2)
end
theorem CkAt.app {w' w'':World} (h:CkAt M w q fb nb N L K G g) (hl:q<n∧fb<n∧nb<n) {row:Option Nat} (hr:∀r,row=some r→n≤r) (hb:Below w.heap.size w w') (hg:w'.grownBy w'' row):CkAt M w'' q fb nb N L K G g:=by
 have h1:=h.below hb;cases row
 case some X=>exact h1.own hl (hr X rfl) hg
 exact h1.below ⟨hg.os,hg.tape,hg.output,hg.size,fun k hk=>hg.block k hk (by simp)⟩
theorem zjw (hv:VW n) (kind pos num:Int) (name:ByteArray) (args:List TEx) (A:Option Addr) (c m:Nat) (hk:kind≠1∧kind≠2∧kind≠3∧kind≠4) (h:CkAt M w q fb nb N L K G g) (hn:name.size≤65536) (ha:args.length≤65536) (hx:zj (zO m) M M.heap.size (.slice A args.length c) args) (hb:zi (n+1) K G (.mk kind pos num name args)≠.bad) :
  Calls Tryz.prog 116 #[.pointer (some ⟨q,0,none⟩),.agg #[kind,pos,num,name,.slice A args.length c]] w (zn noS w RTyV (zi (n+1) K G (.mk kind pos num name args))):=by
 have HV:=hI hv;obtain⟨k1,k2,k3,k4⟩:=hk;have q1:(kind==1)=false:=nB k1;have q2:(kind==2)=false:=nB k2;have q3:(kind==3)=false:=nB k3;have q4:(kind==4)=false:=nB k4;have HN:=hI hn;have HA:=hI ha;have HXX:=hI hx;have HLT:=hI h.lt;have HF:=hI (((Frm.start (S:=noS) w (fun _ h=>h.elim)).alloc 153 [kind,pos,num,name,.slice A args.length c]).allocN (w.heap.size+1) (by simp) 41 [.int .i64 0,.int .i64 0,.int .i64 0]);have HK:=hI ((h.below (bnew w (.cells #[kind,pos,num,name,.slice A args.length c] 153))).below (bnew (w.alloc (.cells #[kind,pos,num,name,.slice A args.length c] 153)) (.cells #[.int .i64 0,.int .i64 0,.int .i64 0] 41)));obtain⟨r,hr⟩:∃r,zi (n+1) K G (.mk kind pos num name args)=r:=⟨_,rfl⟩
 rw[hr] at hb ⊢;have HR:=hI hr;have HNB:=hI hb;generalize hPO:zn noS w RTyV r=PO;have HPO:=hI hPO;clear hr hPO hb h hn ha hx hv;go_enter Tryz.func116,Tryz.ntmps116;go_upto_region 1 with (fail);generalize ((w.alloc _).alloc _)=v1 at *;generalize w.heap.size+1=R at HF ⊢;generalize w.heap.size=X at HF ⊢;unfold zi at HR;rw[if_neg k1,if_neg k2,if_neg k3,if_neg k4] at HR;clear k1 k2 k3 k4;have x_:=blk5 (HF.o.at_ 1 rfl);go_upto_region 14 with (fail);clear q1 q2 q3 q4;go_upto_region 15 with (fail);clear x_;replace HF:=hI (HF.o.alloc 41 [.int .i64 0,.int .i64 0,.int .i64 0]);replace HK:=hI (HK.o.below (bw HF));generalize v1.alloc _=v2 at *;generalize v1.heap.size=O at HF ⊢;obtain⟨x0,x1,x2,x3,x4⟩:=blk5 (HF.o.at_ 2 rfl);go_wp2_with fail;clear x0 x1 x2 x3 x4;have HRW:Jd (RowF z1H noS w v2 3 (.slice none 0 0) [] [(O, 41,[.int .i64 0,.int .i64 0,.int .i64 0]),(R, 41,[.int .i64 0,.int .i64 0,.int .i64 0]),(X, 153,[kind,pos,num,name,.slice A args.length c])] []):=hI (RowF.nil_ HF.o);have HR0:Jd (((zQ1 (fun x=>zi n K G x) 0 [] (args.drop 0)).bind fun r=>(zY1 kind r.2).bind fun q=>tIf q.2 (tIf (decide (num<32)) (.ok ⟨q.1,0,r.1⟩)))=r):=hI (by rw[List.drop_zero];exact HR.o);clear HF HR;go_loopw [8,67] (fun vl vi wr=>∃(i:Nat) (es:List Int) (lab:Int),i≤args.length∧es.length=i∧vi=.int .i64 i∧Jd (RowF z1H noS w wr 3 vl es [(O, 41,[.int .i64 0,.int .i64 0,lab]),(R, 41,[.int .i64 0,.int .i64 0,.int .i64 0]),(X, 153,[kind,pos,num,name,.slice A args.length c])] [])∧Jd (CkAt M wr q fb nb N L K G g)∧Jd (((zQ1 (fun x=>zi n K G x) lab es (args.drop i)).bind fun r=>(zY1 kind r.2).bind fun q=>tIf q.2 (tIf (decide (num<32)) (.ok ⟨q.1,0,r.1⟩)))=r)) (fun _ vi _=>args.length-(intOf vi).toNat)
 case atStart=>exact⟨0,[],0,Nat.zero_le _,rfl,rfl,HRW,HK,HR0⟩
 case round =>
  clear HRW HK HR0;obtain⟨i,es,lab,hi,hes,rfl,HRW,HK,HR⟩:=hrel;obtain⟨A',c',rfl⟩:=HRW.o.len;have HEL:=hI hes;clear hes;have HF:=hI HRW.o.frm;by_cases hlt:i<args.length
  case pos =>
   obtain⟨m2,xb,xoff,Ax,cx,rfl,hxs,hxr,hxc⟩:=zlT HXX.o i hlt;have hrt:=HR.o;rw[zD args i zq hlt] at hrt;have HR1:Jd ((zi n K G (args.getD i zq)).bind (fun t=>((zQ1 (fun x=>zi n K G x) (max lab t.label) (es++[t.elem]) (args.drop (i+1))).bind fun r=>(zY1 kind r.2).bind fun q=>tIf q.2 (tIf (decide (num<32)) (.ok ⟨q.1,0,r.1⟩))))=r):=hI (by rw[←hrt,show zQ1 (fun x=>zi n K G x) lab es (args.getD i zq::args.drop (i+1))=(zi n K G (args.getD i zq)).bind fun t=>zQ1 (fun x=>zi n K G x) (max lab t.label) (es++[t.elem]) (args.drop (i+1)) from rfl,zv9]);clear HR hrt;have HR:=HR1;clear HR1;generalize args.getD i zq=x at *;obtain⟨kx,px,nx,sx,ax⟩:=x;simp only[TEx.kind,TEx.pos,TEx.num,TEx.name,TEx.args] at hxc hxr;have HXS:=hI hxs;have HXR:=hI hxr;have HLT1:=hI hlt;obtain⟨d0,d1,d2,d3,d4⟩:=hxc wr HK.o.old;have k0:(0:Int)≤(i:Int):=by omega
   have k1:(i:Int)<(args.length:Int):=by omega
   clear hxc hxs hxr hlt hi;go_upto_region 19 with (fail);clear d0 d1 d2 d3 d4 k0 k1;replace HK:=hI (HK.o.below (bnew wr (.cells #[kx,px,nx,sx,.slice Ax ax.length cx] 153)));clear HF;replace HRW:=hI (HRW.o.alloc 153 [kx,px,nx,sx,.slice Ax ax.length cx]);generalize wr.alloc _=v1 at *;generalize wr.heap.size=Y at HRW ⊢;have HF:=hI HRW.o.frm;have y_:=blk5 (HF.o.at_ 0 rfl);go_wp2_with fail;refine (HV.o _ _ _ _ _ _ _ _ _ _ kx px nx sx ax Ax cx m2 HK.o HXS.o.1 HXS.o.2 HXR.o (nbL HR.o HNB.o)).mono ?_;intro e v2 hpost;rcases hpost.cases (nbL HR.o HNB.o) with⟨t,hq,u,rfl,hR,hk⟩ | ⟨hq,E,P,rfl,hE,hk⟩
   case inr=>exact uGY
   replace HRW:=hI (HRW.o.call hk);replace HF:=hI HRW.o.frm;replace HK:=hI (HK.o.below (kb hk));have hrt:=brO HR.o hq;try simp only at hrt
   replace HR:=hI hrt;obtain⟨te,tl,tb⟩:=t;obtain rfl:u=zzC ⟨te,tl,tb⟩:=hR;unfold zzC;clear hk hq hrt y_;try simp only at HR
   go_upto_region 20 with (fail);replace HK:=hI (HK.o.below (bnew v2 (.cells #[te,tl,tb] 41)));clear HF;replace HRW:=hI (HRW.o.alloc 41 [te,tl,tb]);generalize v2.alloc _=v3 at *;generalize v2.heap.size=Z at HRW ⊢;have HF:=hI HRW.o.frm;have of_:=frz3 (HF.o.at_ 2 rfl);have o_:=blk3 (HF.o.at_ 2 rfl);have z_:=blk3 (HF.o.at_ 0 rfl);go_upto_region 21 with (fail);rw[show (if lab<tb then tb else lab)=max lab tb by split <;> omega];clear of_ o_ z_;replace HK:=hI (HK.o.own HLT.o (HF.o.lo 2 rfl) (zjV v3 ⟨O,2,none⟩ (.int .i64 (max lab tb))));clear HF;replace HRW:=hI (HRW.o.set 2 rfl 2 (.int .i64 (max lab tb)));generalize v3.setCell _ _=v4 at *;have HF:=hI HRW.o.frm;have HFR:=hI HRW.o.tail.tail;obtain⟨v9,v4,hrun,hrow,hg⟩:=HFR.o.app 44 (.int .i64 0) 1 8 rfl Tryz.underlying44 zEz rfl (by decide) (by decide) (by have:=HEL.o;have:=HLT1.o;have:=HA.o;omega) (es:=[te]) (x:=te) (fun M B _=>rfl) rfl (by intro u hu;simp at hu;rw[hu];rfl);obtain⟨A9,c9,rfl⟩:=hrow.len;rw[List.length_append,List.length_singleton] at hrun hrow;have HK9:=hI (HK.o.app HLT.o HFR.o.own (bnew _ _) hg);have HRUN:=hI hrun;have HRW9:=hI hrow;clear hrun hrow hg;have z_:=blk3 (HF.o.at_ 0 rfl);have hz0:(0:Int)≤(i:Int):=by omega
   have hz1:(i:Int)<65537:=by have:=HLT1.o;have:=HA.o;omega
   go_wp2_with (at_builtin;refine zEF rfl (.tmp 80) (.tmp 83) 44 rfl HRUN.o rfl rfl ?_);go_roundw
   case rel=>exact⟨i+1,es++[te],max lab tb,HLT1.o,by rw[List.length_append,HEL.o];rfl,rfl,HRW9,HK9,HR⟩
   case measure=>simp only[intOf];have:=HLT1.o;omega
  obtain rfl:i=args.length:=by omega
  have hrt:=HR.o;rw[List.drop_length] at hrt;replace HR:Jd (((zY1 kind es).bind fun q=>tIf q.2 (tIf (decide (num<32)) (.ok (⟨q.1,0,lab⟩:TTy))))=r):=hI hrt;clear hrt hi hlt;have HM:=hI (z7C kind es A' c' wr (by have:=HEL.o;have:=HA.o;omega) HRW.o.rep (nbL HR.o HNB.o));clear HRW;have x_:=blk5 (HF.o.at_ 2 rfl);go_wp2_with fail;refine (HM.o).mono ?_;intro e v1 hpost;rcases hpost.cases (nbL HR.o HNB.o) with⟨t,hq,u,rfl,hR,hk⟩ | ⟨hq,E,P,rfl,hE,hk⟩
  case inr=>exact uGY
  replace HF:=hI (HF.o.call hk);replace HK:=hI (HK.o.below (kb hk));have hrt:=brO HR.o hq;try simp only at hrt
  replace HR:=hI hrt;obtain⟨ee,ok⟩:=t;obtain rfl:u=.tuple #[ee,ok]:=hR;clear HM;clear hk hq hrt x_;try simp only at HR
  have x_:=blk5 (HF.o.at_ 2 rfl);go_wp2_with fail;refine (zf (ok) rfl _ _ _).mono ?_;rintro e wz ⟨rfl,⟨hb,rfl⟩ | ⟨hb,rfl⟩⟩
  · exact uCX
  replace HR:=hI (ifO HR.o hb);clear hb;go_wp2_with fail;refine (zf (decide (num<32)) rfl _ _ _).mono ?_;rintro e wz ⟨rfl,⟨hb,rfl⟩ | ⟨hb,rfl⟩⟩
  · exact uCX
  replace HR:=hI (ifO HR.o hb);clear hb;clear x_;have of_:=frz3 (HF.o.at_ 0 rfl);have o_:=blk3 (HF.o.at_ 0 rfl);go_upto_region 27 with (fail);clear of_ o_;replace HK:=hI (HK.o.own HLT.o (HF.o.lo 0 rfl) (zjV v1 ⟨O,0,none⟩ (.int .i64 ee)));replace HF:=hI (HF.o.set 0 rfl 0 (.int .i64 ee));generalize v1.setCell _ _=v2 at *;have o_:=blk3 (HF.o.at_ 0 rfl);have rf_:=frz3 (HF.o.at_ 1 rfl);have r_:=blk3 (HF.o.at_ 1 rfl);go_wp2_with fail;clear o_ rf_ r_;change bodyPost _ _ _ _ _ (setL v2 R 0 [ee,.int .i64 0,lab]);replace HF:=hI (HF.o.fill 1 rfl [ee,.int .i64 0,lab] rfl);generalize setL v2 R 0 _=v3 at *;have r_:=blk3 (HF.o.at_ 1 rfl);refine bodyPost_ret (v:=.agg #[ee,.int .i64 0,lab]) (by simp[results,Tryz.results116,go_sem,r_];try rfl) rfl ?_;exact uS3
theorem z6E (hv:VW n) (hc:CW n):VW (n+1):=by
 intro M w q fb nb N L K G g kind pos num name args A c m h hn ha hx hb;by_cases k1:kind=1
 · exact z3e kind pos num name args A c m k1 h hn ha hx hb
 by_cases k2:kind=2
 · exact z03 kind pos num name args A c m k2 h hn ha hx hb
 by_cases k3:kind=3
 · exact zGb hv kind pos num name args A c m k3 h hn ha hx hb
 by_cases k4:kind=4
 · exact zJ5 hc kind pos num name args A c m k4 h hn ha hx hb
 exact zjw hv kind pos num name args A c m ⟨k1,k2,k3,k4⟩ h hn ha hx hb
theorem zLz:∀n,VW n∧CW n
 | 0=>⟨fun _ _ _ _ _ _ _ _ _ _ _ _ _ _ _ _ _ _ _ _ _ _ hb=>absurd (by unfold zi;rfl) hb,fun _ _ _ _ _ _ _ _ _ _ _ _ _ _ _ _ _ _ _ _ _ _ hb=>absurd (by unfold zRu;rfl) hb⟩
 | n+1=>⟨z6E (zLz n).1 (zLz n).2,z5U (zLz n).1⟩
end
section
variable {G:TGam} {K:TKs} {L:List ByteArray} {M:World} {N fb:Nat} {g:TFu} {n nb q:Nat} {w:World} {x:ByteArray}
section
variable {p:Prop}
theorem uYX (h:p:=by
 go_wp2_with fail;go_end0;exact zn.ok_ HPO.o HR.o HK.o HF.o.kp):p:=h
theorem uQf (h:p:=by
 go_wp2_with fail;refine (zf false rfl _ _ _).mono ?_;rintro e wz ⟨rfl,⟨hb,rfl⟩ | ⟨hb,rfl⟩⟩
 case inr=>cases hb
 clear hb x_ v_ z_;exact uQp):p:=h
theorem uYf (h:p:=by
 intro wz hSz;obtain⟨hXs,hVs,hZs⟩:=hSz;have cV2:=(zz hVs 2).1;have cZ2:=(zz hZs 2).1;have cX1:=(zz hXs 1).1;exact uKk):p:=h
theorem uMc (h:p:=by
 have x_:=z9h (HF.o.at_ 2 rfl);have v_:=blk3 (HF.o.at_ 1 rfl);have z_:=blk4 (HF.o.at_ 0 rfl);have HRT:=hI (ifT HR.o (by simp[h1]));exact uQf):p:=h
theorem uK0 (h:p:=by
 have x_:=z9h (HF.o.at_ 2 rfl);have v_:=blk3 (HF.o.at_ 1 rfl);have z_:=blk4 (HF.o.at_ 0 rfl);have HRT:=hI (ifT HR.o (by simp[h2]));exact uQf):p:=h
theorem uR9 (h:p:=by
 have x_:=z9h (HF.o.at_ 2 rfl);have v_:=blk3 (HF.o.at_ 1 rfl);have z_:=blk4 (HF.o.at_ 0 rfl);have HRT:=hI (ifT HR.o (by simp));exact uQf):p:=h
end
def nbS (nb:Nat):Nat→Prop:=fun x=>x=nb
def RG (M:World) (q fb nb N:Nat) (L:List ByteArray) (K:TKs) (g:TFu) (w':World) (_:Value) (G:TGam):Prop:=CkAt M w' q fb nb N L K G g
theorem zxD {w':World} (h:w.grownBy w' (some nb)):Kp (nbS nb) w w':=⟨h.os,h.tape,h.output,h.size,fun p x hp hx=>(h.block p (zh hx) (fun e=>hp (by injection e))).trans hx⟩
section
variable {M w w':World} {q fb nb N:Nat} {L:List ByteArray} {K:TKs} {G:TGam} {g:TFu}
theorem CkAt.names (h:CkAt M w q fb nb N L K G g) (hg:w.grownBy w' (some nb)) {G':TGam} {gm:ByteArray→Option Value} (hm:MapV w' nb n gm) (h2:∀x,gm x=(G' x).map zkH) (h3:∀x,G' x≠none→x∈L):CkAt M w' q fb nb N L K G' g:=by
 obtain⟨⟨vp,vb,k1⟩,⟨fm,k2,k3⟩,_,k6,k7⟩:=h;refine⟨⟨vp,vb,(hg.block q (zh k1) (fun e=>k7.2.2.2.2.1 (by injection e))).trans k1⟩,⟨fm,k2.keep hg (fun e=>k7.2.2.2.2.2 (by injection e)),k3⟩,⟨gm,hm.tight L (fun x hx=>h3 x (fun e=>hx (by rw[h2,e];rfl))),h2,h3⟩,k6.grown hg k6.size (fun r e=>by injection e with e;have:=k7.2.2.1;omega),k7⟩
theorem CkAt.put (h:CkAt M w q fb nb N L K G g) (hL:L.length≤1048576) (hx:x.size≤65536) (hxL:x∈L) (te tl tb:Int) (fx:Bool) :
  ∃w',(Instr.mapUpdate 144 (.map (some nb)) (.string x) (.agg #[te,tl,tb,fx])).run Tryz.prog w=.ok () w'∧CkAt M w' q fb nb N L K (zSy G x ⟨⟨te,tl,tb⟩,fx⟩) g∧w.grownBy w' (some nb):=by
 obtain⟨gm,h1,h2,h3⟩:=h.nm;obtain⟨w',r1,r2,r3⟩:=h1.store (T := 144) (E := 183) Tryz.underlying144 (by unfold maxLen;omega) x (.agg #[te,tl,tb,fx]) (by unfold maxLen;omega);refine⟨w',r1,h.names r3 r2 (fun y=>?_) (fun y hy=>?_),r3⟩
 · unfold zSy;split
   · rfl
   exact h2 y
 unfold zSy at hy;by_cases e:y=x
 · rw[e];exact hxL
 rw[if_neg e] at hy;exact h3 y hy
theorem CkAt.drop (h:CkAt M w q fb nb N L K G g) (hx:x.size≤65536) (ty:TypeId) :
  ∃w',(Builtin.delete_ #[144, 9] ty #[.map (some nb),x]).run Tryz.prog w=.ok (.tuple #[]) w'∧CkAt M w' q fb nb N L K (zah G x) g∧w.grownBy w' (some nb):=by
 obtain⟨gm,h1,h2,h3⟩:=h.nm;obtain⟨w',r1,r2,r3⟩:=h1.drop (T := 144) (E := 183) Tryz.underlying144 x (by unfold maxLen;omega) ty;refine⟨w',r1,h.names r3 r2 (fun y=>?_) (fun y hy=>?_),r3⟩
 · unfold zah;split
   · rfl
   exact h2 y
 unfold zah at hy;by_cases e:y=x
 · rw[if_pos e] at hy;exact absurd rfl hy
 rw[if_neg e] at hy;exact h3 y hy
end
theorem zr5 (h:CkAt M w q fb nb N L K G g) (hL:L.length≤1048576) (x:ByteArray) (hx:x.size≤65536) (hxL:x∈L) (te tl tb:Int) (fx:Bool) (pos:Int) :
  Calls Tryz.prog 91 #[.pointer (some ⟨q,0,none⟩),x,.agg #[te,tl,tb,fx],pos] w (zn (nbS nb) w (RG M q fb nb N L K g) (zHj G x ⟨⟨te,tl,tb⟩,fx⟩)):=by
 have HXS:=hI hx;have HLL:=hI hL;have HXL:=hI hxL;have HLT:=hI h.lt;have HF:=hI ((Frm.start (S:=(nbS nb)) w (fun x e=>by have e2:x=nb:=e;have:=h.lt;omega)).alloc 183 [te,tl,tb,fx]);have HK:=hI (h.below (bnew w (.cells #[te,tl,tb,fx] 183)));obtain⟨r,hr⟩:∃r,zHj G x ⟨⟨te,tl,tb⟩,fx⟩=r:=⟨_,rfl⟩
 rw[hr] at ⊢;have HR:=hI hr;generalize hPO:zn (nbS nb) w (RG M q fb nb N L K g) r=PO;have HPO:=hI hPO;clear hr hPO  h hx hL hxL;go_enter Tryz.func91,Tryz.ntmps91;go_upto_region 1 with (fail);generalize (w.alloc _)=v at *;generalize w.heap.size=X at HF ⊢;unfold zHj at HR;obtain⟨q0,q1,q5,q6,q8⟩:=HK.o.cell;cases hg:G x
 case some t=>have hl:=HK.o.nmYes HXS.o hg;have hrt:=HR.o;rw[hg] at hrt;replace HR:Jd (.trap=r):=hI hrt;clear hg hrt;go_upto_region 2 with (fail);clear q0 q1 q5 q6 q8 hl;replace HF:=hI (HF.o.alloc 183 [t.kind.elem,t.kind.len,t.kind.label,t.fixed]);replace HK:=hI (HK.o.below (bw HF));generalize v.alloc _=v1 at *;generalize v.heap.size=Y at HF ⊢;have HRT:=hI HR.o.symm;exact uFe
 have hl:=HK.o.nmNo HXS.o hg;have hrt:=HR.o;rw[hg] at hrt;replace HR:Jd (.ok (zSy G x ⟨⟨te,tl,tb⟩,fx⟩)=r):=hI hrt;clear hg hrt;go_upto_region 2 with (fail);clear q0 q1 q5 q6 q8 hl;replace HF:=hI (HF.o.alloc 183 [.int .i64 0,.int .i64 0,.int .i64 0,false]);replace HK:=hI (HK.o.below (bw HF));generalize v.alloc _=v1 at *;generalize v.heap.size=Y at HF ⊢;go_wp2_with fail;refine (zf true rfl _ _ _).mono ?_;rintro e wz ⟨rfl,⟨hb,rfl⟩ | ⟨hb,rfl⟩⟩
 case inl=>cases hb
 clear hb;go_upto_region 3 with (fail);refine wL (fun w'=>w'.heap[X]? = some (.cells #[te,tl,tb,fx] 183 (0,0))∧w'.cell? ⟨q,0,none⟩=some (.map (some fb))∧w'.cell? ⟨q,1,none⟩=some (.map (some nb))∧w'.cell? ⟨q,5,none⟩=some (.bool g.has)∧w'.cell? ⟨q,6,none⟩=some (.int .i64 g.res.elem)∧w'.cell? ⟨q,8,none⟩=some (.int .i64 g.res.label)) 99 ?_;replace HK:=hI (HK.o.below (bdr (Below.refl _ _)));replace HF:=hI HF.o.drew;generalize v1.drew=v at *;refine zY (by kernel_rfl) (fun _ _ _ _ _ h=>h) [(0,some 23,some (.pointer (some ⟨q,0,none⟩))),(1,some 24,some (.pointer (some ⟨q,0,none⟩))),(2,some 25,some (.pointer (some ⟨q,1,none⟩))),(3,some 26,some (.map (some nb))),(4,some 27,some (.string x)),(5,some 28,some (.agg #[te,tl,tb,fx]))] 1 (by rfl) (by kernel_rfl) (by kernel_rfl) ?hv1 (⟨HF.o.at_ 1 rfl,HK.o.cell.1,HK.o.cell.2.1,HK.o.cell.2.2.1,HK.o.cell.2.2.2.1,HK.o.cell.2.2.2.2⟩) ?rs1
 case hv1=>intro wz hSz;obtain⟨hXs,hq0,hq1,hq5,hq6,hq8⟩:=hSz;have cX0:=(zz hXs 0).1;have cX1:=(zz hXs 1).1;have cX2:=(zz hXs 2).1;have cX3:=(zz hXs 3).1;exact uDc
 try simp only[zy,zW,Act.put,pA,pB,pC,Option.getD]
 obtain⟨v,hput,hk9,hg9⟩:=HK.o.put HLL.o HXS.o HXL.o te tl tb fx;refine wone 6 fun K hK=>?_;go_simp;replace HF:=hI (HF.o.call (zxD hg9));replace HK:=hI hk9;clear hput hk9 hg9;refine hK.o _ _ (fun _=>⟨HF.o.at_ 1 rfl,HK.o.cell.1,HK.o.cell.2.1,HK.o.cell.2.2.1,HK.o.cell.2.2.2.1,HK.o.cell.2.2.2.2⟩) ?_;clear hK;refine wD ?_ _;exact uYX
def zUn (n:Nat) (K:TKs) (G:TGam) (name:ByteArray) (args:List TEx):TR TGam:=match args with
 | x::y::_=>(zFK (fun x=>zi n K G x) x 0).bind fun _=>(zi n K G y).bind fun v=>(zg1 G name).bind fun t=>tIf (decide (0<t.kind.len) && (!t.fixed && decide (v.elem=0))) (tIf (zKq v.label t.kind.label) (.ok G))
 | _=>.bad
def RAny (_:World) (_:Value) (_:TGam):Prop:=True
theorem zWh (hv:VW n) (kind pos most:Int) (name:ByteArray) (te tl tb:Int) (args:List TEx) (body els:List TSt) (has:Bool) (Aa Ab Ae:Option Addr) (ca cb ce m:Nat) (h:CkAt M w q fb nb N L K G g) (hn:name.size≤65536) (hx:zj (zO m) M M.heap.size (.slice Aa args.length ca) args) (hb:(zUn n K G name args)≠.bad) :
  Calls Tryz.prog 119 #[.pointer (some ⟨q,0,none⟩),.agg #[kind,pos,most,name,te,tl,tb,.slice Aa args.length ca,.slice Ab body.length cb,.slice Ae els.length ce,has]] w (zn noS w RAny (zUn n K G name args)):=by
 have HN:=hI hn;have HXX:=hI hx;have HV:=hI hv;have HLT:=hI h.lt;have HF:=hI ((Frm.start (S:=noS) w (fun _ h=>h.elim)).alloc 126 [kind,pos,most,name,te,tl,tb,.slice Aa args.length ca,.slice Ab body.length cb,.slice Ae els.length ce,has]);have HK:=hI (h.below (bnew w (.cells #[kind,pos,most,name,te,tl,tb,.slice Aa args.length ca,.slice Ab body.length cb,.slice Ae els.length ce,has] 126)));obtain⟨r,hr⟩:∃r,(zUn n K G name args)=r:=⟨_,rfl⟩
 rw[hr] at hb ⊢;have HR:=hI hr;have HNB:=hI hb;generalize hPO:zn noS w RAny r=PO;have HPO:=hI hPO;clear hr hPO hb h hn hx hv;go_enter Tryz.func119,Tryz.ntmps119;go_upto_region 1 with (fail);generalize (w.alloc _)=v at *;generalize w.heap.size=X at HF ⊢;unfold zUn at HR;match args,HR,HXX with
 | [],HR,_=>exact absurd HR.o.symm HNB.o
 | [_],HR,_=>exact absurd HR.o.symm HNB.o
 | x::y::xs,HR,HXX =>
  simp only at HR;obtain⟨m2,xb,xoff,Ax,cx,rfl,hxs,hxr,hxc⟩:=zlT HXX.o 0 (by simp);obtain⟨m3,yb,yoff,Ay,cy,ey,hys,hyr,hyc⟩:=zlT HXX.o 1 (by simp);injection ey with ey;injection ey with ey ey';subst ey;subst ey';simp only[List.getD_cons_zero,List.getD_cons_succ,Nat.zero_mul,Nat.add_zero] at hxs hxr hxc hys hyr hyc;obtain⟨kx,px,nx,sx,ax⟩:=x;obtain⟨ky,py,ny,sy,ay⟩:=y;simp only[TEx.kind,TEx.pos,TEx.num,TEx.name,TEx.args] at hxc hyc hxr hyr;have HXS:=hI hxs;have HXR:=hI hxr;have HXC:=hI hxc;have HYS:=hI hys;have HYR:=hI hyr;have HYC:=hI hyc;have k1:(0:Int)<(((TEx.mk kx px nx sx ax::TEx.mk ky py ny sy ay::xs).length:Nat):Int):=by rw[List.length_cons];omega
  have k2:(1:Int)<(((TEx.mk kx px nx sx ax::TEx.mk ky py ny sy ay::xs).length:Nat):Int):=by rw[List.length_cons,List.length_cons];omega
  generalize (TEx.mk kx px nx sx ax::TEx.mk ky py ny sy ay::xs).length=ln at *;have kz:¬ln=0:=by omega
  have kz2:1<ln:=by omega
  obtain⟨d0,d1,d2,d3,d4⟩:=hxc _ HK.o.old;clear hxs hxr hxc hys hyr hyc;have x_:=z9h (HF.o.at_ 0 rfl);go_wp2_with fail;refine (ziP HV.o kx px nx sx ax Ax cx m2 0 HK.o HXS.o.1 HXS.o.2 HXR.o (nbL HR.o HNB.o)).mono ?_;intro e v hpost;rcases hpost.cases (nbL HR.o HNB.o) with⟨t,hq,u,rfl,hR,hk⟩ | ⟨hq,E,P,rfl,hE,hk⟩
  case inr=>exact uGY
  replace HF:=hI (HF.o.call hk);replace HK:=hI (HK.o.below (kb hk));have hrt:=brO HR.o hq;try simp only at hrt
  replace HR:=hI hrt;clear hk hq hrt d0 d1 d2 d3 d4 x_;obtain⟨d0,d1,d2,d3,d4⟩:=HYC.o _ HK.o.old;have x_:=z9h (HF.o.at_ 0 rfl);go_wp2_with fail;refine (HV.o _ _ _ _ _ _ _ _ _ _ ky py ny sy ay Ay cy m3 HK.o HYS.o.1 HYS.o.2 HYR.o (nbL HR.o HNB.o)).mono ?_;intro e v hpost;rcases hpost.cases (nbL HR.o HNB.o) with⟨t,hq,u,rfl,hR,hk⟩ | ⟨hq,E,P,rfl,hE,hk⟩
  case inr=>exact uGY
  replace HF:=hI (HF.o.call hk);replace HK:=hI (HK.o.below (kb hk));have hrt:=brO HR.o hq;try simp only at hrt
  replace HR:=hI hrt;obtain⟨ve,vl,vb⟩:=t;obtain rfl:u=zzC ⟨ve,vl,vb⟩:=hR;unfold zzC;clear hk hq hrt d0 d1 d2 d3 d4 x_;go_upto_region 3 with (fail);replace HF:=hI (HF.o.alloc 41 [ve,vl,vb]);replace HK:=hI (HK.o.below (bw HF));generalize v.alloc _=v1 at *;generalize v.heap.size=V at HF ⊢;clear k1 k2 kz kz2;obtain⟨x0,x1,x2,x3,x4,x5,x6,x7,x8,x9,x10⟩:=z9h (HF.o.at_ 1 rfl);go_wp2_with fail;refine (zug HK.o name HN.o pos).mono ?_;intro e v hpost;rcases hpost.cases (nbL HR.o HNB.o) with⟨t,hq,u,rfl,hR,hk⟩ | ⟨hq,E,P,rfl,hE,hk⟩
  case inr=>exact uGY
  replace HF:=hI (HF.o.call hk);replace HK:=hI (HK.o.below (kb hk));have hrt:=brO HR.o hq;try simp only at hrt
  replace HR:=hI hrt;obtain⟨⟨ze,zl,zb⟩,fx⟩:=t;obtain rfl:u=zkH ⟨⟨ze,zl,zb⟩,fx⟩:=hR;unfold zkH;clear hk hq hrt x0 x1 x2 x3 x4 x5 x6 x7 x8 x9 x10;go_upto_region 4 with (fail);replace HF:=hI (HF.o.alloc 183 [ze,zl,zb,fx]);replace HK:=hI (HK.o.below (bw HF));generalize v.alloc _=v1 at *;generalize v.heap.size=Z at HF ⊢;try simp only at HR
  by_cases h1:0<zl
  case neg=>have q1:decide (0<zl)=false:=decide_eq_false h1;exact uMc
  cases fx
  case true=>have q1:decide (0<zl)=true:=decide_eq_true h1;exact uR9
  by_cases h2:ve=0
  case neg=>have q2:(ve==0)=false:=nB h2;exact uK0
  subst h2;have x_:=z9h (HF.o.at_ 2 rfl);have v_:=blk3 (HF.o.at_ 1 rfl);have z_:=blk4 (HF.o.at_ 0 rfl);replace HR:=hI (ifO HR.o (by simp[h1]));go_wp2_with fail;refine (zf true rfl _ _ _).mono ?_;rintro e wz ⟨rfl,⟨hb,rfl⟩ | ⟨hb,rfl⟩⟩
  case inl=>cases hb
  clear hb;clear h1;go_upto_region 5 with (fail);clear x_ v_ z_;refine wL (fun w'=>w'.heap[X]? = some (.cells #[kind,pos,most,name,te,tl,tb,.slice (some ⟨xb,xoff,none⟩) ln ca,.slice Ab body.length cb,.slice Ae els.length ce,has] 126 (0,0))∧w'.heap[V]? = some (.cells #[.int .i64 0,vl,vb] 41 (0,0))∧w'.heap[Z]? = some (.cells #[ze,zl,zb,false] 183 (0,0))) 99 ?_;replace HK:=hI (HK.o.below (bdr (Below.refl _ _)));replace HF:=hI HF.o.drew;generalize v1.drew=v at *;refine zY (by kernel_rfl) (fun _ _ _ _ _ h=>h) [(0,some 41,some (.pointer (some ⟨V,2,none⟩))),(1,some 42,some (.int .i64 vb)),(2,some 43,some (.pointer (some ⟨Z,0,none⟩))),(3,some 44,some (.pointer (some ⟨Z,2,none⟩))),(4,some 45,some (.int .i64 zb)),(6,some 47,some (.pointer (some ⟨X,1,none⟩))),(7,some 48,some (.int .i64 pos))] 2 (by rfl) (by kernel_rfl) (by kernel_rfl) ?hv1 (⟨HF.o.at_ 2 rfl,HF.o.at_ 1 rfl,HF.o.at_ 0 rfl⟩) ?rs1
  case hv1=>exact uYf
  try simp only[zy,zW,Act.put,pA,pB,pC,Option.getD]
  refine wone 5 fun K hK=>?_;go_simp;refine (zcd vb zb _).mono ?_;rintro e wz ⟨rfl,rfl⟩;refine hK.o _ _ (fun _=>⟨HF.o.at_ 2 rfl,HF.o.at_ 1 rfl,HF.o.at_ 0 rfl⟩) ?_;clear hK;try simp only[Act.put,pA,pB,pC]
  refine wone 8 fun K hK=>?_;go_simp;refine (zf (zKq vb zb) rfl _ _ _).mono ?_;rintro e wz ⟨rfl,⟨hb,rfl⟩ | ⟨hb,rfl⟩⟩
  · exact uQb
  replace HR:=hI (ifO HR.o hb);clear hb;refine hK.o _ _ (fun _=>⟨HF.o.at_ 2 rfl,HF.o.at_ 1 rfl,HF.o.at_ 0 rfl⟩) ?_;clear hK;try simp only[Act.put,pA,pB,pC]
  refine wD ?_ _;exact uY1
end
section
variable {G:TGam} {K:TKs} {L:List ByteArray} {M:World} {N fb:Nat} {g:TFu} {n nb q:Nat} {w:World}
section
variable {p:Prop}
theorem uB7 (h:p:=by
 have HRT:=hI (brT HR.o hq);have HFT:=hI (HF.o.call (hk.weak (fun _ h=>h.elim))).kp;have HE:=hI hE;clear hk hq hE;go_wp2_with fail;exact⟨rfl,zn.trap_ HPO.o HRT.o HE.o HFT.o⟩):p:=h
end
def SW (M:World) (n:Nat):Prop:=∀(w:World) (q fb nb N:Nat) (L:List ByteArray) (K:TKs) (G:TGam) (g:TFu) (last:Bool) (kind pos most:Int) (name:ByteArray) (te tl tb:Int) (args:List TEx) (body els:List TSt) (has:Bool) (Aa Ab Ae:Option Addr) (ca cb ce m d:Nat),CkAt M w q fb nb N L K G g→L.length≤1048576→stSm (.mk kind pos most name ⟨te,tl,tb⟩ args body els has)→stIn L d (.mk kind pos most name ⟨te,tl,tb⟩ args body els has)→zj (zO m) M M.heap.size (.slice Aa args.length ca) args→zj (zM m) M M.heap.size (.slice Ab body.length cb) body→zj (zM m) M M.heap.size (.slice Ae els.length ce) els→zE n K g G last (.mk kind pos most name ⟨te,tl,tb⟩ args body els has)≠.bad →
 Calls Tryz.prog 92 #[.pointer (some ⟨q,0,none⟩),.agg #[kind,pos,most,name,te,tl,tb,.slice Aa args.length ca,.slice Ab body.length cb,.slice Ae els.length ce,has],last] w (zn (nbS nb) w (RG M q fb nb N L K g) (zE n K g G last (.mk kind pos most name ⟨te,tl,tb⟩ args body els has)))
def BW (M:World) (n:Nat):Prop:=∀(w:World) (q fb nb N:Nat) (L:List ByteArray) (K:TKs) (G:TGam) (g:TFu) (l:List TSt) (A:Option Addr) (c m d:Nat),CkAt M w q fb nb N L K G g→L.length≤1048576→(∀s∈l,stIn L d s)→l.length≤65536→zj (zM m) M M.heap.size (.slice A l.length c) l→zXK n K g G l≠.bad →
 Calls Tryz.prog 121 #[.pointer (some ⟨q,0,none⟩),.slice A l.length c] w (zn (nbS nb) w (RG M q fb nb N L K g) (zXK n K g G l))
theorem st_1 (hv:VW n) (last:Bool) (pos most:Int) (name:ByteArray) (te tl tb:Int) (args:List TEx) (body els:List TSt) (has:Bool) (Aa Ab Ae:Option Addr) (ca cb ce m d:Nat) (h:CkAt M w q fb nb N L K G g) (hL:L.length≤1048576) (hs:stSm (.mk 1 pos most name ⟨te,tl,tb⟩ args body els has)) (hd:stIn L d (.mk 1 pos most name ⟨te,tl,tb⟩ args body els has)) (hx:zj (zO m) M M.heap.size (.slice Aa args.length ca) args) (hy:zj (zM m) M M.heap.size (.slice Ab body.length cb) body) (hz:zj (zM m) M M.heap.size (.slice Ae els.length ce) els) (hb:zE (n+1) K g G last (.mk 1 pos most name ⟨te,tl,tb⟩ args body els has)≠.bad) :
  Calls Tryz.prog 92 #[.pointer (some ⟨q,0,none⟩),.agg #[.int .i64 1,pos,most,name,te,tl,tb,.slice Aa args.length ca,.slice Ab body.length cb,.slice Ae els.length ce,has],last] w (zn (nbS nb) w (RG M q fb nb N L K g) (zE (n+1) K g G last (.mk 1 pos most name ⟨te,tl,tb⟩ args body els has))):=by
 have HN:Jd (name.size≤65536):=hI hs.1;have HLL:=hI hL;have HXX:=hI hx;have HV:=hI hv;have HIN:Jd (name∈L):=hI (by cases d with | zero=>exact hd.elim | succ d=>exact hd.1 (by decide));have HLT:=hI h.lt;have HF:=hI ((Frm.start (S:=(nbS nb)) w (fun x e=>by have e2:x=nb:=e;have:=h.lt;omega)).alloc 126 [.int .i64 1,pos,most,name,te,tl,tb,.slice Aa args.length ca,.slice Ab body.length cb,.slice Ae els.length ce,has]);have HK:=hI (h.below (bnew w (.cells #[.int .i64 1,pos,most,name,te,tl,tb,.slice Aa args.length ca,.slice Ab body.length cb,.slice Ae els.length ce,has] 126)));obtain⟨r,hr⟩:∃r,zE (n+1) K g G last (.mk 1 pos most name ⟨te,tl,tb⟩ args body els has)=r:=⟨_,rfl⟩
 rw[hr] at hb ⊢;have HR:=hI hr;have HNB:=hI hb;generalize hPO:zn (nbS nb) w (RG M q fb nb N L K g) r=PO;have HPO:=hI hPO;clear hr hPO hb h hL hs hd hx hy hz hv;go_enter Tryz.func92,Tryz.ntmps92;go_upto_region 1 with (fail);generalize (w.alloc _)=v at *;generalize w.heap.size=X at HF ⊢;unfold zE at HR;rw[if_pos rfl] at HR;match args,HR,HXX with
 | [],HR,_=>exact absurd HR.o.symm HNB.o
 | x::xs,HR,HXX =>
  simp only at HR;obtain⟨m2,xb,xoff,Ax,cx,rfl,hxs,hxr,hxc⟩:=zlT HXX.o 0 (by simp);simp only[List.getD_cons_zero,Nat.zero_mul,Nat.add_zero] at hxs hxr hxc;obtain⟨kx,px,nx,sx,ax⟩:=x;simp only[TEx.kind,TEx.pos,TEx.num,TEx.name,TEx.args] at hxc hxr;have HXC:=hI hxc;have HXS:=hI hxs;have HXR:=hI hxr;have k1:(0:Int)<(((TEx.mk kx px nx sx ax::xs).length:Nat):Int):=by rw[List.length_cons];omega
  generalize (TEx.mk kx px nx sx ax::xs).length=ln at *;have kz:¬ln=0:=by omega
  obtain⟨d0,d1,d2,d3,d4⟩:=hxc _ HK.o.old;clear hxs hxr hxc;have x_:=z9h (HF.o.at_ 0 rfl);go_upto_region 3 with (fail);clear d0 d1 d2 d3 d4 x_;refine wL (fun w'=>w'.heap[X]? = some (.cells #[.int .i64 1,pos,most,name,te,tl,tb,.slice (some ⟨xb,xoff,none⟩) ln ca,.slice Ab body.length cb,.slice Ae els.length ce,has] 126 (0,0))∧Below M.heap.size M w') 99 ?_;replace HK:=hI (HK.o.below (bdr (Below.refl _ _)));replace HF:=hI HF.o.drew;generalize v.drew=v at *;refine zY (by kernel_rfl) (fun _ _ _ _ _ h=>h) [(0,some 13,some (.pointer (some ⟨q,0,none⟩))),(1,some 14,some (.pointer (some ⟨X,3,none⟩))),(2,some 15,some (.string name)),(3,some 16,some (.pointer (some ⟨q,0,none⟩))),(4,some 17,some (.pointer (some ⟨X,7,none⟩))),(5,some 18,some (.slice (some ⟨xb,xoff,none⟩) ln ca)),(6,some 19,some (.pointer (some ⟨xb,xoff,none⟩))),(7,some 20,some (.agg #[kx,px,nx,sx,.slice Ax ax.length cx])),(10,some 23,some (.pointer (some ⟨X,1,none⟩))),(11,some 24,some (.int .i64 pos))] 3 (by rfl) (by kernel_rfl) (by kernel_rfl) ?hv1 (⟨HF.o.at_ 0 rfl,HK.o.old⟩) ?rs1
  case hv1=>intro wz hSz;obtain⟨hXs,hx0⟩:=hSz;have cX3:=(zz hXs 3).1;have cX7:=(zz hXs 7).1;obtain⟨d0,d1,d2,d3,d4⟩:=HXC.o wz hx0;have cX1:=(zz hXs 1).1;exact uKV
  try simp only[zy,zW,Act.put,pA,pB,pC,Option.getD]
  refine wone 8 fun K hK=>?_;go_simp;clear k1 kz;refine (HV.o _ _ _ _ _ _ _ _ _ _ kx px nx sx ax Ax cx m2 HK.o HXS.o.1 HXS.o.2 HXR.o (nbL HR.o HNB.o)).mono ?_;intro e v hpost;rcases hpost.cases (nbL HR.o HNB.o) with⟨t,hq,u,rfl,hR,hk⟩ | ⟨hq,E,P,rfl,hE,hk⟩
  case inr=>exact uB7
  replace HF:=hI (HF.o.call (hk.weak (fun _ h=>h.elim)));replace HK:=hI (HK.o.below (kb hk));have hrt:=brO HR.o hq;try simp only at hrt
  replace HR:=hI hrt;obtain⟨ve,vl,vb⟩:=t;obtain rfl:u=zzC ⟨ve,vl,vb⟩:=hR;unfold zzC;clear hk hq hrt;try simp only at HR
  refine hK.o _ _ (fun _=>⟨HF.o.at_ 0 rfl,HK.o.old⟩) ?_;clear hK;try simp only[]
  refine zY (by kernel_rfl) (fun _ _ _ _ _ h=>h) [(9,some 22,some (.agg #[ve,vl,vb,true]))] 1 (by rfl) (by kernel_rfl) (by kernel_rfl) ?hv2 (⟨HF.o.at_ 0 rfl,HK.o.old⟩) ?rs2
  case hv2=>intro wz hSz;obtain⟨hXs,hx0⟩:=hSz;exact uUy
  try simp only[zy,zW,Act.put,pA,pB,pC,Option.getD]
  refine wone 12 fun K hK=>?_;go_simp;have HRB:Jd ((zHj G name ⟨⟨ve,vl,vb⟩,true⟩).bind (fun G=>.ok G)=r):=hI (by rw[←HR.o];cases zHj G name ⟨⟨ve,vl,vb⟩,true⟩ <;> rfl);clear HR;have HR:=HRB;clear HRB;refine (zr5 HK.o HLL.o name HN.o HIN.o ve vl vb true pos).mono ?_;intro e v hpost;rcases hpost.cases (nbL HR.o HNB.o) with⟨G2,hq,u,rfl,hR,hk⟩ | ⟨hq,E,P,rfl,hE,hk⟩
  case inr=>exact uGY
  replace HF:=hI (HF.o.call hk);replace HK:=hI hR;have hrt:=brO HR.o hq;try simp only at hrt
  replace HR:=hI hrt;clear hk hq hrt;refine hK.o _ _ (fun _=>⟨HF.o.at_ 0 rfl,HK.o.old⟩) ?_;clear hK;try simp only[Act.put,pA,pB,pC]
  refine wD ?_ _;exact uYX
theorem st_2  (last:Bool) (pos most:Int) (name:ByteArray) (te tl tb:Int) (args:List TEx) (body els:List TSt) (has:Bool) (Aa Ab Ae:Option Addr) (ca cb ce m d:Nat) (h:CkAt M w q fb nb N L K G g) (hL:L.length≤1048576) (hs:stSm (.mk 2 pos most name ⟨te,tl,tb⟩ args body els has)) (hd:stIn L d (.mk 2 pos most name ⟨te,tl,tb⟩ args body els has)) (hx:zj (zO m) M M.heap.size (.slice Aa args.length ca) args) (hy:zj (zM m) M M.heap.size (.slice Ab body.length cb) body) (hz:zj (zM m) M M.heap.size (.slice Ae els.length ce) els) (hb:zE (n+1) K g G last (.mk 2 pos most name ⟨te,tl,tb⟩ args body els has)≠.bad) :
  Calls Tryz.prog 92 #[.pointer (some ⟨q,0,none⟩),.agg #[.int .i64 2,pos,most,name,te,tl,tb,.slice Aa args.length ca,.slice Ab body.length cb,.slice Ae els.length ce,has],last] w (zn (nbS nb) w (RG M q fb nb N L K g) (zE (n+1) K g G last (.mk 2 pos most name ⟨te,tl,tb⟩ args body els has))):=by
 have HN:Jd (name.size≤65536):=hI hs.1;have HLL:=hI hL;have HXX:=hI hx;have HIN:Jd (name∈L):=hI (by cases d with | zero=>exact hd.elim | succ d=>exact hd.1 (by decide));have HLT:=hI h.lt;have HF:=hI ((Frm.start (S:=(nbS nb)) w (fun x e=>by have e2:x=nb:=e;have:=h.lt;omega)).alloc 126 [.int .i64 2,pos,most,name,te,tl,tb,.slice Aa args.length ca,.slice Ab body.length cb,.slice Ae els.length ce,has]);have HK:=hI (h.below (bnew w (.cells #[.int .i64 2,pos,most,name,te,tl,tb,.slice Aa args.length ca,.slice Ab body.length cb,.slice Ae els.length ce,has] 126)));obtain⟨r,hr⟩:∃r,zE (n+1) K g G last (.mk 2 pos most name ⟨te,tl,tb⟩ args body els has)=r:=⟨_,rfl⟩
 rw[hr] at hb ⊢;have HR:=hI hr;have HNB:=hI hb;generalize hPO:zn (nbS nb) w (RG M q fb nb N L K g) r=PO;have HPO:=hI hPO;clear hr hPO hb h hL hs hd hx hy hz;go_enter Tryz.func92,Tryz.ntmps92;go_upto_region 1 with (fail);generalize (w.alloc _)=v at *;generalize w.heap.size=X at HF ⊢;unfold zE at HR;rw[if_neg (by decide),if_pos rfl] at HR;have x_:=z9h (HF.o.at_ 0 rfl);go_wp2_with fail;refine (zr5 HK.o HLL.o name HN.o HIN.o te tl tb false pos).mono ?_;intro e v hpost;rcases hpost.cases (nbL HR.o HNB.o) with⟨G2,hq,u,rfl,hR,hk⟩ | ⟨hq,E,P,rfl,hE,hk⟩
 case inr=>exact uGY
 replace HF:=hI (HF.o.call hk);replace HK:=hI hR;have hrt:=brO HR.o hq;try simp only at hrt
 replace HR:=hI hrt;clear hk hq hrt x_;have x_:=z9h (HF.o.at_ 0 rfl);try simp only at HR
 go_wp2_with fail;refine (zf (decide (tl≤16384)) rfl _ _ _).mono ?_;rintro e wz ⟨rfl,⟨hb,rfl⟩ | ⟨hb,rfl⟩⟩
 · exact uCX
 replace HR:=hI (ifO HR.o hb);clear hb;exact uYX
theorem zu9 {T:Type} (r:TR T):(r.bind fun t=>.ok t)=r:=by cases r <;> rfl
theorem zd2 {G2:TGam} {name:ByteArray} {args:List TEx} (h:zUn n K G name args=.ok G2):G2=G:=by
 unfold zUn at h;match args,h with
 | x::y::_,h=>obtain⟨_,_,h⟩:=TR.bind_ok h;obtain⟨_,_,h⟩:=TR.bind_ok h;obtain⟨_,_,h⟩:=TR.bind_ok h;obtain⟨_,h⟩:=zP h;obtain⟨_,h⟩:=zP h;cases h;rfl
theorem st_4 (hv:VW n) (last:Bool) (pos most:Int) (name:ByteArray) (te tl tb:Int) (args:List TEx) (body els:List TSt) (has:Bool) (Aa Ab Ae:Option Addr) (ca cb ce m d:Nat) (h:CkAt M w q fb nb N L K G g) (hL:L.length≤1048576) (hs:stSm (.mk 4 pos most name ⟨te,tl,tb⟩ args body els has)) (hd:stIn L d (.mk 4 pos most name ⟨te,tl,tb⟩ args body els has)) (hx:zj (zO m) M M.heap.size (.slice Aa args.length ca) args) (hy:zj (zM m) M M.heap.size (.slice Ab body.length cb) body) (hz:zj (zM m) M M.heap.size (.slice Ae els.length ce) els) (hb:zE (n+1) K g G last (.mk 4 pos most name ⟨te,tl,tb⟩ args body els has)≠.bad) :
  Calls Tryz.prog 92 #[.pointer (some ⟨q,0,none⟩),.agg #[.int .i64 4,pos,most,name,te,tl,tb,.slice Aa args.length ca,.slice Ab body.length cb,.slice Ae els.length ce,has],last] w (zn (nbS nb) w (RG M q fb nb N L K g) (zE (n+1) K g G last (.mk 4 pos most name ⟨te,tl,tb⟩ args body els has))):=by
 have HN:Jd (name.size≤65536):=hI hs.1;have HLL:=hI hL;have HXX:=hI hx;have HV:=hI hv;have HLT:=hI h.lt;have HF:=hI ((Frm.start (S:=(nbS nb)) w (fun x e=>by have e2:x=nb:=e;have:=h.lt;omega)).alloc 126 [.int .i64 4,pos,most,name,te,tl,tb,.slice Aa args.length ca,.slice Ab body.length cb,.slice Ae els.length ce,has]);have HK:=hI (h.below (bnew w (.cells #[.int .i64 4,pos,most,name,te,tl,tb,.slice Aa args.length ca,.slice Ab body.length cb,.slice Ae els.length ce,has] 126)));obtain⟨r,hr⟩:∃r,zE (n+1) K g G last (.mk 4 pos most name ⟨te,tl,tb⟩ args body els has)=r:=⟨_,rfl⟩
 rw[hr] at hb ⊢;have HR:=hI hr;have HNB:=hI hb;generalize hPO:zn (nbS nb) w (RG M q fb nb N L K g) r=PO;have HPO:=hI hPO;clear hr hPO hb h hL hs hd hx hy hz hv;go_enter Tryz.func92,Tryz.ntmps92;go_upto_region 1 with (fail);generalize (w.alloc _)=v at *;generalize w.heap.size=X at HF ⊢;unfold zE at HR;rw[if_neg (by decide),if_neg (by decide),if_neg (by decide),if_pos rfl] at HR;have HRB:Jd (zUn n K G name args=r):=hI HR.o;clear HR;have HR:=hI ((zu9 _).trans HRB.o);clear HRB;have x_:=z9h (HF.o.at_ 0 rfl);go_wp2_with fail;refine (zWh HV.o 4 pos most name te tl tb args body els has Aa Ab Ae ca cb ce m HK.o HN.o HXX.o (nbL HR.o HNB.o)).mono ?_;intro e v hpost;rcases hpost.cases (nbL HR.o HNB.o) with⟨G2,hq,u,rfl,hR,hk⟩ | ⟨hq,E,P,rfl,hE,hk⟩
 case inr=>exact uB7
 replace HF:=hI (HF.o.call (hk.weak (fun _ h=>h.elim)));replace HK:=hI (HK.o.below (kb hk));have hrt:=brO HR.o hq;try simp only at hrt
 replace HR:=hI hrt;have hG:=zd2 hq;subst hG;clear hk hq hrt x_;exact uYX
end
section
variable {G:TGam} {K:TKs} {L:List ByteArray} {M:World} {N:Nat} {a:Int} {ax:List TEx} {fb:Nat} {g:TFu} {n nb:Nat} {nx px:Int} {q:Nat} {sx:ByteArray} {w:World}
section
variable {p:Prop}
theorem uIK (h:p:=by
 refine⟨zQ rfl ?_,zQ rfl ?_,zQ rfl ?_,zQ rfl ?_,zQ rfl ?_,zQ rfl ?_,zQ rfl ?_,zQ rfl ?_,zQ rfl ?_,zQ rfl ?_,zQ rfl ?_,trivial⟩;all_goals (simp only[Act.put,pA,pB,pC,Option.getD];go_simp)):p:=h
theorem uI7 (h:p:=by
 rw[HV.o] at HR;have v0:0≤min (a+(1+cx9)) 65537∧min (a+(1+cx9)) 65537≤65537:=by omega
 have hz0:(0:Int)≤(i:Int):=by omega
 have hz1:(i:Int)<65537:=by have:=HLT1.o;have:=HLN.o;omega
 go_wp2_with fail;go_roundw
 case rel=>exact⟨i+1,min (a+(1+cx9)) 65537,HLT1.o,v0.1,v0.2,rfl,rfl,hI HF.o.tail,HK,HR⟩
 case measure=>simp only[intOf];have:=HLT1.o;omega):p:=h
theorem uP0 (h:p:=by
 obtain⟨fm,h1,h2⟩:=h.fn;have h3:=h2 x;rw[e] at h3;rw[h1.look1 Tryz.underlying143 (z7v w) x (by unfold maxLen;omega),h3];rfl):p:=h
theorem uFq (h:p:=by
 obtain rfl:i=l.length:=by omega
 have hrt:=HR.o;rw[List.drop_length] at hrt;replace HR:Jd (.ok a=r):=hI hrt;clear hrt hi hlt;go_wp2_with fail;exact uS3):p:=h
end
theorem zZ9 {T:Type} (f:Int→T→Int) (hf:∀a x,0≤a→a≤65537→0≤f a x∧f a x≤65537):∀(l:List T) (a:Int),0≤a→a≤65537→0≤l.foldl f a∧l.foldl f a≤65537
 | [],a,h0,h1=>⟨h0,h1⟩
 | x::l,a,h0,h1=>zZ9 f hf l (f a x) (hf a x h0 h1).1 (hf a x h0 h1).2
def zCj (K:TKs):Prop:=∀x k,K x=some k→0≤k.cost∧k.cost≤65537
def cxF (n:Nat) (K:TKs):Int→TEx→Int:=fun a x=>min (a+(1+zUU n K x.args)+(if x.kind=4 then (match K x.name with
 | some k=>k.cost
 | none=>0) else 0)) 65537
theorem zrF (h:K sx=none):cxF n K a (.mk 4 px nx sx ax)=min (a+(1+zUU n K ax)) 65537:=by
 show min (a+(1+zUU n K ax)+(if (4:Int)=4 then (match K sx with
  | some k=>k.cost
  | none=>0) else 0)) 65537=_
 rw[if_pos rfl,h,Int.add_zero]
theorem zVl {k:TKn} (h:K sx=some k):cxF n K a (.mk 4 px nx sx ax)=min (a+(1+zUU n K ax)+k.cost) 65537:=by
 show min (a+(1+zUU n K ax)+(if (4:Int)=4 then (match K sx with
  | some k=>k.cost
  | none=>0) else 0)) 65537=_
 rw[if_pos rfl,h]
theorem z5N {kx:Int} (h:¬kx=4):cxF n K a (.mk kx px nx sx ax)=min (a+(1+zUU n K ax)) 65537:=by
 show min (a+(1+zUU n K ax)+(if kx=4 then (match K sx with
  | some k=>k.cost
  | none=>0) else 0)) 65537=_
 rw[if_neg h,Int.add_zero]
def csF (n:Nat) (K:TKs):Int→TSt→Int:=fun a s=>min (a+(1+zUU n K s.args+s.ty.len)+(if s.kind=6 then (s.most+1)*(1+z8 n K s.body) else z8 n K s.body)+z8 n K s.els) 65537
theorem zHW (hk:zCj K):∀(n:Nat) (l:List TEx),0≤zUU n K l∧zUU n K l≤65537
 | 0,_=>by unfold zUU;decide
 | n+1,l=>by
  refine zZ9 (cxF n K) (fun a x h0 h1=>?_) l 0 (by decide) (by decide)
  have h2:=zHW hk n x.args
  have h3:0≤(if x.kind=4 then (match K x.name with
   | some k=>k.cost
   | none=>0) else 0):=by
   split
   · split
     · rename_i k hx;exact (hk _ _ hx).1
     decide
   · decide
  unfold cxF
  omega
def z5i:Nat→TSt→Prop
 | 0,_=>True
 | n+1,s=>0≤s.most∧s.most≤4294967295∧0≤s.ty.len∧s.ty.len≤4294967295∧(∀t∈s.body,z5i n t)∧∀t∈s.els,z5i n t
theorem zCj.of (h:CkAt M w q fb nb N L K G g):zCj K:=fun x k hk=>by
 obtain⟨fm,_,h2⟩:=h.fn
 have h3:=h2 x
 rw[hk] at h3
 obtain⟨_,_,_,_,_,_,_,h4⟩:=h3
 exact h4
theorem zSG (a:Int) (b:ByteArray) (c:Option Addr) (c1 c2:Int) (d:Bool) (e f g:Int) (h:Option Addr) (h1 h2:Int) (i:Int) (W:World) (n1 n2 m1 m2:Nat):(Instr.field 150 (.agg #[a,b,.slice c n1 n2,d,e,f,g,.slice h m1 m2,i]) 1).run Tryz.prog W=.ok (.int .i64 i) W:=by kernel_rfl
def RCo (_:World) (u:Value) (t:Int):Prop:=u=.int .i64 t
theorem CkAt.fnNo1 (h:CkAt M w q fb nb N L K G g) {x:ByteArray} (hx:x.size≤65536) (e:K x=none):(Instr.lookup 143 (.map (some fb)) (.string x) false).run Tryz.prog w=.ok (.agg #[.int .i64 0,.string ⟨#[]⟩,.slice none 0 0,false,.int .i64 0,.int .i64 0,.int .i64 0,.slice none 0 0,.int .i64 0]) w:=by
 exact uP0
theorem zhK {c:Nat} {A:Option Addr} {l:List TEx} (h:zj (zO (n+1)) M M.heap.size (.slice A l.length c) l) (k:Nat) (hk:k<l.length) :
  ∃(_:Nat) (b off:Nat) (Ax:Option Addr) (cx:Nat),A=some ⟨b,off,none⟩∧exSm (l.getD k zq)∧zj (zO n) M M.heap.size (.slice Ax (l.getD k zq).args.length cx) (l.getD k zq).args∧∀w,Below M.heap.size M w →
   w.cell? ⟨b,off+k*5,none⟩=some (.int .i64 (l.getD k zq).kind)∧w.cell? ⟨b,off+k*5+1,none⟩=some (.int .i64 (l.getD k zq).pos)∧w.cell? ⟨b,off+k*5+2,none⟩=some (.int .i64 (l.getD k zq).num) ∧
   w.cell? ⟨b,off+k*5+3,none⟩=some (.string (l.getD k zq).name)∧w.cell? ⟨b,off+k*5+4,none⟩=some (.slice Ax (l.getD k zq).args.length cx):=by
 obtain⟨m,b,off,v,e1,e2,hb,hs,hx,c0,c1,c2,c3,c4⟩:=zYA h k hk
 obtain rfl:n=m:=by omega
 obtain⟨Ax,cx,e,_⟩:=hx.shape
 rw[e] at hx c4
 exact⟨0,b,off,Ax,cx,e2,hs,hx,fun w hw=>⟨(hw.cell hb).trans c0,(hw.cell hb).trans c1,(hw.cell hb).trans c2,(hw.cell hb).trans c3,(hw.cell hb).trans c4⟩⟩
theorem zaC:∀(m n:Nat) (w:World) (q fb nb N:Nat) (L:List ByteArray) (K:TKs) (G:TGam) (g:TFu) (l:List TEx) (A:Option Addr) (c:Nat),m≤n→CkAt M w q fb nb N L K G g→l.length≤65536→zj (zO m) M M.heap.size (.slice A l.length c) l →
  Calls Tryz.prog 123 #[.pointer (some ⟨q,0,none⟩),.slice A l.length c] w (zn noS w RCo (.ok (zUU n K l))):=by
 intro m;induction m with
 | zero =>
  intro n w q fb nb N L K G g l A c hmn h hl hx
  have hl0:l=[]:=by
   obtain⟨A',c',ev,_,hx⟩:=hx;match l,hx with
   | [],_=>rfl
   | x::l,hx=>obtain⟨_,_,_,_,_,hr,_⟩:=hx 0 x rfl;exact hr.elim
  subst hl0;have hc0:zUU n K []=0:=by cases n <;> rfl
  rw[hc0];have HF:=hI (Frm.start (S:=noS) w (fun _ h=>h.elim));generalize hPO:zn noS w RCo (.ok 0)=PO;have HPO:=hI hPO;clear hx h hmn hl hc0 hPO;go_enter Tryz.func123,Tryz.ntmps123;go_wp2_with fail;go_loopw [5,10] (fun vn vi wr=>vn=.int .i64 0∧vi=.int .i64 0∧wr=w) (fun _ _ _=>0)
  case atStart=>exact⟨rfl,rfl,rfl⟩
  case round=>obtain⟨rfl,rfl,hwr⟩:=hrel;subst hwr;go_wp2_with fail;exact zn.ok_ HPO.o rfl rfl HF.o.kp
 | succ m ih =>
  intro n w q fb nb N L K G g l A c hmn h hl hx;obtain⟨n,rfl⟩:∃n',n=n'+1:=⟨n-1,by omega⟩
  have HMN:Jd (m≤n):=hI (by omega);have HIH:=hI ih;have HKC:=hI (zCj.of h);have HXX:=hI hx;have HLN:=hI hl;have HLT:=hI h.lt;have HF:=hI (Frm.start (S:=noS) w (fun _ h=>h.elim));have HK:=hI h;obtain⟨r,hr⟩:∃r,(.ok (zUU (n+1) K l):TR Int)=r:=⟨_,rfl⟩
  rw[hr] at ⊢;have HR:=hI hr;generalize hPO:zn noS w RCo r=PO;have HPO:=hI hPO;clear hr hPO  h hmn hl hx ih;go_enter Tryz.func123,Tryz.ntmps123;have HR0:Jd (.ok ((l.drop 0).foldl (cxF n K) 0)=r):=hI HR.o;clear HR;go_wp2_with fail;go_loopw [5,10] (fun vn vi wr=>∃(i:Nat) (a:Int),i≤l.length∧0≤a∧a≤65537∧vi=.int .i64 i∧vn=.int .i64 a∧Jd (Frm noS w wr [] [])∧Jd (CkAt M wr q fb nb N L K G g)∧Jd (.ok ((l.drop i).foldl (cxF n K) a)=r)) (fun _ vi _=>l.length-(intOf vi).toNat)
  case atStart=>exact⟨0,0,Nat.zero_le _,by decide,by decide,rfl,rfl,HF,HK,HR0⟩
  case round =>
   clear HF HK HR0;obtain⟨i,a,hi,a0,a1,rfl,rfl,HF,HK,HR⟩:=hrel;by_cases hlt:i<l.length
   case pos =>
    obtain⟨m2,xb,xoff,Ax,cx,rfl,hxs,hxr,hxc⟩:=zhK HXX.o i hlt;have hrt:=HR.o;rw[zD l i zq hlt] at hrt;replace HR:Jd (.ok ((l.drop (i+1)).foldl (cxF n K) (cxF n K a (l.getD i zq)))=r):=hI hrt;clear hrt;generalize l.getD i zq=x at *;obtain⟨kx,px,nx,sx,ax⟩:=x;simp only[TEx.kind,TEx.pos,TEx.num,TEx.name,TEx.args] at hxc hxr;have HXS:=hI hxs;have HXR:=hI hxr;have HLT1:=hI hlt;obtain⟨d0,d1,d2,d3,d4⟩:=hxc wr HK.o.old;have k0:(0:Int)≤(i:Int):=by omega
    have k1:(i:Int)<(l.length:Int):=by omega
    have HA:=hI (And.intro a0 a1);clear hxs hxr hxc hlt hi a0 a1;go_upto_region 5 with (fail);clear d0 d1 d2 d3 d4 k0 k1;replace HF:=hI (HF.o.alloc 153 [kx,px,nx,sx,.slice Ax ax.length cx]);replace HK:=hI (HK.o.below (bw HF));generalize wr.alloc _=v at *;generalize wr.heap.size=Y at HF ⊢;have y_:=blk5 (HF.o.at_ 0 rfl);go_wp2_with fail;refine (HIH.o n _ q fb nb N L K G g ax Ax cx HMN.o HK.o HXS.o.2 HXR.o).mono ?_;rintro e v ⟨⟨u,rfl,hu⟩,hk⟩;obtain rfl:u=.int .i64 (zUU n K ax):=hu;replace HF:=hI (HF.o.call hk);replace HK:=hI (HK.o.below (kb hk));clear hk y_;obtain⟨b0,b1⟩:=zHW HKC.o n ax;obtain⟨a0,a1⟩:=HA.o;generalize hcx:zUU n K ax=cx9 at *;have HCX:=hI hcx;clear hcx;obtain⟨y0,y1,y2,y3,y4⟩:=blk5 (HF.o.at_ 0 rfl);by_cases h4:kx=4
    case pos =>
     subst h4;go_upto_region 7 with (fail);cases hg:K sx
     case none =>
      have g8:IntKind.i64.wrap (a+(1+cx9))=a+(1+cx9):=by rw[zF];unfold wrap64;omega
      have HG:=hI hg;clear hg;clear y0 y1 y2 y3 y4;refine wL (fun w'=>w'.heap[Y]? = some (.cells #[.int .i64 4,px,nx,sx,.slice Ax ax.length cx] 153 (0,0))∧w'.cell? ⟨q,0,none⟩=some (.map (some fb))∧w'.cell? ⟨q,1,none⟩=some (.map (some nb))∧w'.cell? ⟨q,5,none⟩=some (.bool g.has)∧w'.cell? ⟨q,6,none⟩=some (.int .i64 g.res.elem)∧w'.cell? ⟨q,8,none⟩=some (.int .i64 g.res.label)∧(Instr.lookup 143 (.map (some fb)) (.string sx) false).run Tryz.prog w'=.ok (.agg #[.int .i64 0,.string ⟨#[]⟩,.slice none 0 0,false,.int .i64 0,.int .i64 0,.int .i64 0,.slice none 0 0,.int .i64 0]) w') 99 ?_;replace HK:=hI (HK.o.below (bdr (Below.refl _ _)));replace HF:=hI HF.o.drew;generalize v.drew=v1 at *;refine zY (by kernel_rfl) (fun _ _ _ _ _ h=>h) [(0,some 24,some (.int .i64 (a+(1+cx9)))),(1,some 25,some (.pointer (some ⟨q,0,none⟩))),(2,some 26,some (.pointer (some ⟨q,0,none⟩))),(3,some 27,some (.pointer (some ⟨q,0,none⟩))),(4,some 28,some (.map (some fb))),(5,some 29,some (.pointer (some ⟨Y,3,none⟩))),(6,some 30,some (.string sx)),(7,some 31,some (.agg #[.int .i64 0,.string ⟨#[]⟩,.slice none 0 0,false,.int .i64 0,.int .i64 0,.int .i64 0,.slice none 0 0,.int .i64 0])),(8,some 32,some (.int .i64 0)),(9,some 33,some (.int .i64 (a+(1+cx9)))),(10,some 5,some (.int .i64 (a+(1+cx9))))] 0 (by rfl) (by kernel_rfl) (by kernel_rfl) ?hv1 (⟨HF.o.at_ 0 rfl,HK.o.cell.1,HK.o.cell.2.1,HK.o.cell.2.2.1,HK.o.cell.2.2.2.1,HK.o.cell.2.2.2.2,HK.o.fnNo1 HXS.o.1 HG.o⟩) ?rs1
      case hv1=>intro wz hSz;obtain⟨hYs,hq0,hq1,hq5,hq6,hq8,hx0⟩:=hSz;have cY3:=(zz hYs 3).1;have g9:=zSG 0 ⟨#[]⟩ none 0 0 false 0 0 0 none 0 0 0 wz 0 0 0 0;exact uIK
      try simp only[zy,zW,Act.put,pA,pB,pC,Option.getD]
      refine wD ?_ _;have y_:=blk5 (HF.o.at_ 0 rfl);go_wp2_with fail;refine (zEa _ _ _).mono ?_;rintro e wz ⟨rfl,rfl⟩;clear y_;have HV:Jd (cxF n K a (.mk 4 px nx sx ax)=min (a+(1+cx9)) 65537):=hI (by rw[zrF HG.o,HCX.o]);exact uI7
     rename_i k;obtain⟨Ap,cp,Ab,cb,_,hl2,_,_,kc0,kc1⟩:=HK.o.fnYes HXS.o.1 hg;have HL2:=hI hl2;have HG:=hI hg;clear hl2 hg;have g8:IntKind.i64.wrap (a+(1+cx9)+k.cost)=a+(1+cx9)+k.cost:=by rw[zF];unfold wrap64;omega
     clear y0 y1 y2 y3 y4;refine wL (fun w'=>w'.heap[Y]? = some (.cells #[.int .i64 4,px,nx,sx,.slice Ax ax.length cx] 153 (0,0))∧w'.cell? ⟨q,0,none⟩=some (.map (some fb))∧w'.cell? ⟨q,1,none⟩=some (.map (some nb))∧w'.cell? ⟨q,5,none⟩=some (.bool g.has)∧w'.cell? ⟨q,6,none⟩=some (.int .i64 g.res.elem)∧w'.cell? ⟨q,8,none⟩=some (.int .i64 g.res.label)∧(Instr.lookup 143 (.map (some fb)) (.string sx) false).run Tryz.prog w'=.ok (.agg #[k.f.pos,k.f.name,.slice Ap k.f.params.length cp,k.f.has,k.f.res.elem,k.f.res.len,k.f.res.label,.slice Ab k.f.body.length cb,k.cost]) w') 99 ?_;replace HK:=hI (HK.o.below (bdr (Below.refl _ _)));replace HF:=hI HF.o.drew;have HD:=hI (bdr (Below.refl v.heap.size v));generalize v.drew=v1 at *;refine zY (by kernel_rfl) (fun _ _ _ _ _ h=>h) [(0,some 24,some (.int .i64 (a+(1+cx9)))),(1,some 25,some (.pointer (some ⟨q,0,none⟩))),(2,some 26,some (.pointer (some ⟨q,0,none⟩))),(3,some 27,some (.pointer (some ⟨q,0,none⟩))),(4,some 28,some (.map (some fb))),(5,some 29,some (.pointer (some ⟨Y,3,none⟩))),(6,some 30,some (.string sx)),(7,some 31,some (.agg #[k.f.pos,k.f.name,.slice Ap k.f.params.length cp,k.f.has,k.f.res.elem,k.f.res.len,k.f.res.label,.slice Ab k.f.body.length cb,k.cost])),(8,some 32,some (.int .i64 k.cost)),(9,some 33,some (.int .i64 (a+(1+cx9)+k.cost))),(10,some 5,some (.int .i64 (a+(1+cx9)+k.cost)))] 0 (by rfl) (by kernel_rfl) (by kernel_rfl) ?hv2 (⟨HF.o.at_ 0 rfl,HK.o.cell.1,HK.o.cell.2.1,HK.o.cell.2.2.1,HK.o.cell.2.2.2.1,HK.o.cell.2.2.2.2,HL2.o _ HD.o⟩) ?rs2
     case hv2=>intro wz hSz;obtain⟨hYs,hq0,hq1,hq5,hq6,hq8,hx0⟩:=hSz;have cY3:=(zz hYs 3).1;have g9:=zSG k.f.pos k.f.name Ap 0 0 k.f.has k.f.res.elem k.f.res.len k.f.res.label Ab 0 0 k.cost wz k.f.params.length cp k.f.body.length cb;exact uIK
     try simp only[zy,zW,Act.put,pA,pB,pC,Option.getD]
     refine wD ?_ _;have y_:=blk5 (HF.o.at_ 0 rfl);go_wp2_with fail;refine (zEa _ _ _).mono ?_;rintro e wz ⟨rfl,rfl⟩;clear y_;have HV:Jd (cxF n K a (.mk 4 px nx sx ax)=min (a+(1+cx9)+k.cost) 65537):=hI (by rw[zVl HG.o,HCX.o]);rw[HV.o] at HR;have v0:0≤min (a+(1+cx9)+k.cost) 65537∧min (a+(1+cx9)+k.cost) 65537≤65537:=by omega
     have hz0:(0:Int)≤(i:Int):=by omega
     have hz1:(i:Int)<65537:=by have:=HLT1.o;have:=HLN.o;omega
     go_wp2_with fail;go_roundw
     case rel=>exact⟨i+1,min (a+(1+cx9)+k.cost) 65537,HLT1.o,v0.1,v0.2,rfl,rfl,hI HF.o.tail,HK,HR⟩
     case measure=>simp only[intOf];have:=HLT1.o;omega
    have q4:(kx==4)=false:=nB h4;go_wp2_with fail;refine (zEa _ _ _).mono ?_;rintro e wz ⟨rfl,rfl⟩;clear y0 y1 y2 y3 y4;have HV:Jd (cxF n K a (.mk kx px nx sx ax)=min (a+(1+cx9)) 65537):=hI (by rw[z5N h4,HCX.o]);exact uI7
   exact uFq
end
section
variable {K:TKs} {M:World} {a:Int} {bds els:List TSt} {hs:Bool} {ms:Int} {n:Nat} {ns:ByteArray} {ps tb te tl:Int} {xs:List TEx}
section
variable {p:Prop}
theorem uYq (h:p:=by
 refine⟨zQ rfl ?_,zQ rfl ?_,zQ rfl ?_,zQ rfl ?_,trivial⟩;all_goals (simp only[Act.put,pA,pB,pC,Option.getD];go_simp)):p:=h
end
theorem zYX:csF n K a (.mk 6 ps ms ns ⟨te,tl,tb⟩ xs bds els hs)=min (a+(1+zUU n K xs+tl)+(ms+1)*(1+z8 n K bds)+z8 n K els) 65537:=rfl
theorem zrl {ks:Int} (h:¬ks=6):csF n K a (.mk ks ps ms ns ⟨te,tl,tb⟩ xs bds els hs)=min (a+(1+zUU n K xs+tl)+z8 n K bds+z8 n K els) 65537:=by
 show min (a+(1+zUU n K xs+tl)+(if ks=6 then (ms+1)*(1+z8 n K bds) else z8 n K bds)+z8 n K els) 65537=_;rw[if_neg h]
theorem zBD {b:Int} (h0:0≤a) (h1:a≤4294967295) (h2:0≤b) (h3:b≤65537):0≤(a+1)*(1+b)∧(a+1)*(1+b)≤4294967296*65538 :=
 ⟨Int.mul_nonneg (by omega) (by omega),Int.mul_le_mul (by omega) (by omega) (by omega) (by decide)⟩
theorem zIo {T:Type} (f:Int→T→Int) (Q:T→Prop) (hf:∀a x,Q x→0≤a→a≤65537→0≤f a x∧f a x≤65537):∀(l:List T) (a:Int),(∀x∈l,Q x)→0≤a→a≤65537→0≤l.foldl f a∧l.foldl f a≤65537
 | [],a,_,h0,h1=>⟨h0,h1⟩
 | x::l,a,hq,h0,h1=>zIo f Q hf l (f a x) (fun y hy=>hq y (List.mem_cons_of_mem _ hy)) (hf a x (hq x (List.mem_cons_self ..)) h0 h1).1 (hf a x (hq x (List.mem_cons_self ..)) h0 h1).2
theorem zUb (hk:zCj K):∀(n:Nat) (l:List TSt),(∀s∈l,z5i n s)→0≤z8 n K l∧z8 n K l≤65537
 | 0,_,_=>by unfold z8;decide
 | n+1,l,hl=>by
  refine zIo (csF n K) (z5i (n+1)) (fun a s hs h0 h1=>?_) l 0 hl (by decide) (by decide)
  obtain⟨ks,ps,ms,ns,⟨te,tl,tb⟩,xs,bds,els,hh⟩:=s
  obtain⟨m0,m1,l0,l1,hb,he⟩:=hs
  simp only[TSt.most,TSt.ty,TSt.body,TSt.els] at m0 m1 l0 l1 hb he
  have h2:=zHW hk n xs
  have h3:=zUb hk n bds hb
  have h4:=zUb hk n els he
  by_cases h6:ks=6
  · subst h6
    have h5:=zBD m0 m1 h3.1 h3.2
    rw[zYX];omega
  · rw[zrl h6];omega
theorem z9u {c:Nat} {A:Option Addr} {l:List TSt} (h:zj (zM (n+1)) M M.heap.size (.slice A l.length c) l) (k:Nat) (hk:k<l.length) :
  ∃(b off:Nat) (Aa:Option Addr) (ca:Nat) (Ab:Option Addr) (cb:Nat) (Ae:Option Addr) (ce:Nat),A=some ⟨b,off,none⟩∧stSm (l.getD k zJ)∧zj (zO n) M M.heap.size (.slice Aa (l.getD k zJ).args.length ca) (l.getD k zJ).args∧zj (zM n) M M.heap.size (.slice Ab (l.getD k zJ).body.length cb) (l.getD k zJ).body∧zj (zM n) M M.heap.size (.slice Ae (l.getD k zJ).els.length ce) (l.getD k zJ).els∧∀w,Below M.heap.size M w →
   w.cell? ⟨b,off+k*11,none⟩=some (.int .i64 (l.getD k zJ).kind)∧w.cell? ⟨b,off+k*11+1,none⟩=some (.int .i64 (l.getD k zJ).pos)∧w.cell? ⟨b,off+k*11+2,none⟩=some (.int .i64 (l.getD k zJ).most)∧w.cell? ⟨b,off+k*11+3,none⟩=some (.string (l.getD k zJ).name) ∧
   w.cell? ⟨b,off+k*11+4,none⟩=some (.int .i64 (l.getD k zJ).ty.elem)∧w.cell? ⟨b,off+k*11+5,none⟩=some (.int .i64 (l.getD k zJ).ty.len)∧w.cell? ⟨b,off+k*11+6,none⟩=some (.int .i64 (l.getD k zJ).ty.label) ∧
   w.cell? ⟨b,off+k*11+7,none⟩=some (.slice Aa (l.getD k zJ).args.length ca)∧w.cell? ⟨b,off+k*11+8,none⟩=some (.slice Ab (l.getD k zJ).body.length cb)∧w.cell? ⟨b,off+k*11+9,none⟩=some (.slice Ae (l.getD k zJ).els.length ce)∧w.cell? ⟨b,off+k*11+10,none⟩=some (.bool (l.getD k zJ).has):=by
 obtain⟨m,b,off,va,vb,ve,e1,e2,hb,hs,hx,hy,hz,hc⟩:=zM1 h k hk
 obtain rfl:n=m:=by omega
 obtain⟨Aa,ca,ea,_⟩:=hx.shape
 obtain⟨Ab,cb,eb,_⟩:=hy.shape
 obtain⟨Ae,ce,ee,_⟩:=hz.shape
 subst ea eb ee
 exact⟨b,off,Aa,ca,Ab,cb,Ae,ce,e2,hs,hx,hy,hz,fun w hw=>⟨(hw.cell hb).trans (hc 0 _ rfl),(hw.cell hb).trans (hc 1 _ rfl),(hw.cell hb).trans (hc 2 _ rfl),(hw.cell hb).trans (hc 3 _ rfl),(hw.cell hb).trans (hc 4 _ rfl),(hw.cell hb).trans (hc 5 _ rfl),(hw.cell hb).trans (hc 6 _ rfl),(hw.cell hb).trans (hc 7 _ rfl),(hw.cell hb).trans (hc 8 _ rfl),(hw.cell hb).trans (hc 9 _ rfl),(hw.cell hb).trans (hc 10 _ rfl)⟩⟩
theorem zdK:∀(m n:Nat) (w:World) (q fb nb N:Nat) (L:List ByteArray) (K:TKs) (G:TGam) (g:TFu) (l:List TSt) (A:Option Addr) (c:Nat),m≤n→CkAt M w q fb nb N L K G g→(∀s∈l,z5i n s)→l.length≤65536→zj (zM m) M M.heap.size (.slice A l.length c) l →
  Calls Tryz.prog 94 #[.pointer (some ⟨q,0,none⟩),.slice A l.length c] w (zn noS w RCo (.ok (z8 n K l))):=by
 intro m;induction m with
 | zero =>
  intro n w q fb nb N L K G g l A c hmn h hnu hl hx
  have hl0:l=[]:=by
   obtain⟨A',c',ev,_,hx⟩:=hx;match l,hx with
   | [],_=>rfl
   | x::l,hx=>obtain⟨_,_,_,_,_,hr,_⟩:=hx 0 x rfl;exact hr.elim
  subst hl0;have hc0:z8 n K []=0:=by cases n <;> rfl
  rw[hc0];have HF:=hI (Frm.start (S:=noS) w (fun _ h=>h.elim));generalize hPO:zn noS w RCo (.ok 0)=PO;have HPO:=hI hPO;clear hx h hmn hl hc0 hPO hnu;go_enter Tryz.func94,Tryz.ntmps94;go_wp2_with fail;go_loopw [5,8,11] (fun vn _ vi wr=>vn=.int .i64 0∧vi=.int .i64 0∧wr=w) (fun _ _ _ _=>0)
  case atStart=>exact⟨rfl,rfl,rfl⟩
  case round=>obtain⟨rfl,rfl,hwr⟩:=hrel;subst hwr;go_wp2_with fail;exact zn.ok_ HPO.o rfl rfl HF.o.kp
 | succ m ih =>
  intro n w q fb nb N L K G g l A c hmn h hnu hl hx;obtain⟨n,rfl⟩:∃n',n=n'+1:=⟨n-1,by omega⟩
  have HMN:Jd (m≤n):=hI (by omega);have HIH:=hI ih;have HKC:=hI (zCj.of h);have HXX:=hI hx;have HLN:=hI hl;have HNU:=hI hnu;have HLT:=hI h.lt;have HF:=hI (Frm.start (S:=noS) w (fun _ h=>h.elim));have HK:=hI h;obtain⟨r,hr⟩:∃r,(.ok (z8 (n+1) K l):TR Int)=r:=⟨_,rfl⟩
  rw[hr] at ⊢;have HR:=hI hr;generalize hPO:zn noS w RCo r=PO;have HPO:=hI hPO;clear hr hPO  h hmn hl hx ih hnu;go_enter Tryz.func94,Tryz.ntmps94;have HR0:Jd (.ok ((l.drop 0).foldl (csF n K) 0)=r):=hI HR.o;clear HR;go_wp2_with fail;go_loopw [5,8,11] (fun vn _ vi wr=>∃(i:Nat) (a:Int),i≤l.length∧0≤a∧a≤65537∧vi=.int .i64 i∧vn=.int .i64 a∧Jd (Frm noS w wr [] [])∧Jd (CkAt M wr q fb nb N L K G g)∧Jd (.ok ((l.drop i).foldl (csF n K) a)=r)) (fun _ _ vi _=>l.length-(intOf vi).toNat)
  case atStart=>exact⟨0,0,Nat.zero_le _,by decide,by decide,rfl,rfl,HF,HK,HR0⟩
  case round =>
   clear HF HK HR0;obtain⟨i,a,hi,a0,a1,rfl,rfl,HF,HK,HR⟩:=hrel;by_cases hlt:i<l.length
   case pos =>
    obtain⟨sb,soff,Aa,ca,Ab,cb,Ae,ce,rfl,hsm,hsa,hsb,hse,hsc⟩:=z9u HXX.o i hlt;have hrt:=HR.o;rw[zD l i zJ hlt] at hrt;replace HR:Jd (.ok ((l.drop (i+1)).foldl (csF n K) (csF n K a (l.getD i zJ)))=r):=hI hrt;clear hrt;have hnu:=HNU.o (l.getD i zJ) (by rw[List.getD_eq_getElem?_getD,List.getElem?_eq_getElem hlt];exact List.getElem_mem hlt);generalize l.getD i zJ=s at *;obtain⟨ks,ps,ms,ns,⟨te,tl,tb⟩,xs,bds,els,hs⟩:=s;simp only[TSt.kind,TSt.pos,TSt.most,TSt.name,TSt.ty,TSt.args,TSt.body,TSt.els,TSt.has] at hsc hsa hsb hse;obtain⟨m0,m1,l0,l1,hnb,hne⟩:=hnu;simp only[TSt.most,TSt.ty,TSt.body,TSt.els] at m0 m1 l0 l1 hnb hne;have HSM:=hI hsm;have HSA:=hI hsa;have HSB:=hI hsb;have HSE:=hI hse;have HLT1:=hI hlt;have HNB:=hI hnb;have HNE:=hI hne;have HML:=hI (And.intro m0 (And.intro m1 (And.intro l0 l1)));obtain⟨d0,d1,d2,d3,d4,d5,d6,d7,d8,d9,d10⟩:=hsc wr HK.o.old;have k0:(0:Int)≤(i:Int):=by omega
    have k1:(i:Int)<(l.length:Int):=by omega
    have HA:=hI (And.intro a0 a1);clear hsm hsa hsb hse hsc hlt hi a0 a1 m0 m1 l0 l1 hnb hne;go_upto_region 5 with (fail);clear d0 d1 d2 d3 d4 d5 d6 d7 d8 d9 d10 k0 k1;replace HF:=hI (HF.o.alloc 126 [ks,ps,ms,ns,te,tl,tb,.slice Aa xs.length ca,.slice Ab bds.length cb,.slice Ae els.length ce,hs]);replace HK:=hI (HK.o.below (bw HF));generalize wr.alloc _=v at *;generalize wr.heap.size=Y at HF ⊢;obtain⟨b0,b1⟩:=zHW HKC.o n xs;obtain⟨a0,a1⟩:=HA.o;obtain⟨m0,m1,l0,l1⟩:=HML.o;obtain⟨x9,HX9⟩:∃z,zUU n K xs=z:=⟨_,rfl⟩
    rw[HX9] at b0 b1;have HCX:=hI HX9;clear HX9;have g1:IntKind.i64.wrap (1+x9)=1+x9:=by rw[zF];unfold wrap64;omega
    have g2:IntKind.i64.wrap (1+x9+tl)=1+x9+tl:=by rw[zF];unfold wrap64;omega
    have g3:IntKind.i64.wrap (a+(1+x9+tl))=a+(1+x9+tl):=by rw[zF];unfold wrap64;omega
    refine wL (fun w'=>w'.heap[Y]? = some (.cells #[ks,ps,ms,ns,te,tl,tb,.slice Aa xs.length ca,.slice Ab bds.length cb,.slice Ae els.length ce,hs] 126 (0,0))) 99 ?_;replace HK:=hI (HK.o.below (bdr (Below.refl _ _)));replace HF:=hI HF.o.drew;generalize v.drew=v at *;refine zY (by kernel_rfl) (fun _ _ _ _ _ h=>h) [(0,some 15,some (.int .i64 a)),(1,some 16,some (.pointer (some ⟨q,0,none⟩))),(2,some 17,some (.pointer (some ⟨Y,7,none⟩))),(3,some 18,some (.slice Aa xs.length ca)),(6,some 21,some (.pointer (some ⟨Y,4,none⟩))),(7,some 22,some (.pointer (some ⟨Y,5,none⟩))),(8,some 23,some (.int .i64 tl))] 5 (by rfl) (by kernel_rfl) (by kernel_rfl) ?hv1 (HF.o.at_ 0 rfl) ?rs1
    case hv1=>intro wz hSz;have hYs:=hSz;have cY7:=(zz hYs 7).1;have cY5:=(zz hYs 5).1;exact uKk
    try simp only[zy,zW,Act.put,pA,pB,pC,Option.getD]
    refine wone 4 fun Kz hK=>?_;go_simp;refine (zaC m n _ q fb nb N L K G g xs Aa ca HMN.o HK.o HSM.o.2.1 HSA.o).mono ?_;rintro e v ⟨⟨u,rfl,hu⟩,hk⟩;obtain rfl:u=.int .i64 (zUU n K xs):=hu;rw[HCX.o];replace HF:=hI (HF.o.call hk);replace HK:=hI (HK.o.below (kb hk));clear hk;refine hK.o _ _ (fun _=>HF.o.at_ 0 rfl) ?_;clear hK;try simp only[Act.put,pA,pB,pC]
    refine zY (by kernel_rfl) (fun _ _ _ _ _ h=>h) [(5,some 20,some (.int .i64 (1+x9))),(9,some 24,some (.int .i64 (1+x9+tl))),(10,some 25,some (.int .i64 (a+(1+x9+tl)))),(11,some 5,some (.int .i64 (a+(1+x9+tl))))] 0 (by rfl) (by kernel_rfl) (by kernel_rfl) ?hv2 (HF.o.at_ 0 rfl) ?rs2
    case hv2=>intro wz hSz;have hYs:=hSz;exact uYq
    try simp only[zy,zW,Act.put,pA,pB,pC,Option.getD]
    refine wD ?_ _;clear g1 g2 g3;have y_:=z9h (HF.o.at_ 0 rfl);go_wp2_with fail;refine (HIH.o n _ q fb nb N L K G g bds Ab cb HMN.o HK.o HNB.o HSM.o.2.2.1 HSB.o).mono ?_;rintro e v ⟨⟨u,rfl,hu⟩,hk⟩;obtain rfl:u=.int .i64 (z8 n K bds):=hu;replace HF:=hI (HF.o.call hk);replace HK:=hI (HK.o.below (kb hk));clear hk y_;obtain⟨f0,f1⟩:=zUb HKC.o n bds HNB.o;obtain⟨f9,hf9⟩:∃z,z8 n K bds=z:=⟨_,rfl⟩
    rw[hf9] at f0 f1 ⊢;have HF9:=hI hf9;clear hf9;have y_:=z9h (HF.o.at_ 0 rfl);by_cases h6:ks=6
    case pos =>
     subst h6;obtain⟨p0,p1⟩:=zBD m0 m1 f0 f1;obtain⟨p9,hp9⟩:∃z,(ms+1)*(1+f9)=z:=⟨_,rfl⟩
     rw[hp9] at p0 p1;have HP9:=hI hp9;have HPM:=hI (show IntKind.i64.wrap ((ms+1)*(1+f9))=p9 by rw[hp9,zF];unfold wrap64;omega);have gpm:=HPM.o;clear hp9;have g4:IntKind.i64.wrap (a+(1+x9+tl)+p9)=a+(1+x9+tl)+p9:=by rw[zF];unfold wrap64;omega
     go_wp2_with fail;refine (HIH.o n _ q fb nb N L K G g els Ae ce HMN.o HK.o HNE.o HSM.o.2.2.2 HSE.o).mono ?_;rintro e v ⟨⟨u,rfl,hu⟩,hk⟩;obtain rfl:u=.int .i64 (z8 n K els):=hu;replace HF:=hI (HF.o.call hk);replace HK:=hI (HK.o.below (kb hk));clear hk;obtain⟨z0,z1⟩:=zUb HKC.o n els HNE.o;obtain⟨z9,hz9⟩:∃z,z8 n K els=z:=⟨_,rfl⟩
     rw[hz9] at z0 z1 ⊢;have HZ9:=hI hz9;clear hz9;have g5:IntKind.i64.wrap (a+(1+x9+tl)+p9+z9)=a+(1+x9+tl)+p9+z9:=by rw[zF];unfold wrap64;omega
     go_wp2_with fail;refine (zEa _ _ _).mono ?_;rintro e wz ⟨rfl,rfl⟩;clear g4 g5 gpm y_;have HV:Jd (csF n K a (.mk 6 ps ms ns ⟨te,tl,tb⟩ xs bds els hs)=min (a+(1+x9+tl)+p9+z9) 65537):=hI (by rw[zYX,HCX.o,HF9.o,HP9.o,HZ9.o]);rw[HV.o] at HR;have v0:0≤min (a+(1+x9+tl)+p9+z9) 65537∧min (a+(1+x9+tl)+p9+z9) 65537≤65537:=by omega
     have hz0:(0:Int)≤(i:Int):=by omega
     have hz1:(i:Int)<65537:=by have:=HLT1.o;have:=HLN.o;omega
     go_wp2_with fail;go_roundw
     case rel=>exact⟨i+1,min (a+(1+x9+tl)+p9+z9) 65537,HLT1.o,v0.1,v0.2,rfl,rfl,hI HF.o.tail,HK,HR⟩
     case measure=>simp only[intOf];have:=HLT1.o;omega
    have q6:(ks==6)=false:=nB h6;have g4:IntKind.i64.wrap (a+(1+x9+tl)+f9)=a+(1+x9+tl)+f9:=by rw[zF];unfold wrap64;omega
    go_wp2_with fail;refine (HIH.o n _ q fb nb N L K G g els Ae ce HMN.o HK.o HNE.o HSM.o.2.2.2 HSE.o).mono ?_;rintro e v ⟨⟨u,rfl,hu⟩,hk⟩;obtain rfl:u=.int .i64 (z8 n K els):=hu;replace HF:=hI (HF.o.call hk);replace HK:=hI (HK.o.below (kb hk));clear hk;obtain⟨z0,z1⟩:=zUb HKC.o n els HNE.o;obtain⟨z9,hz9⟩:∃z,z8 n K els=z:=⟨_,rfl⟩
    rw[hz9] at z0 z1 ⊢;have HZ9:=hI hz9;clear hz9;have g5:IntKind.i64.wrap (a+(1+x9+tl)+f9+z9)=a+(1+x9+tl)+f9+z9:=by rw[zF];unfold wrap64;omega
    go_wp2_with fail;refine (zEa _ _ _).mono ?_;rintro e wz ⟨rfl,rfl⟩;clear g4 g5 q6 y_;have HV:Jd (csF n K a (.mk ks ps ms ns ⟨te,tl,tb⟩ xs bds els hs)=min (a+(1+x9+tl)+f9+z9) 65537):=hI (by rw[zrl h6,HCX.o,HF9.o,HZ9.o]);rw[HV.o] at HR;have v0:0≤min (a+(1+x9+tl)+f9+z9) 65537∧min (a+(1+x9+tl)+f9+z9) 65537≤65537:=by omega
    have hz0:(0:Int)≤(i:Int):=by omega
    have hz1:(i:Int)<65537:=by have:=HLT1.o;have:=HLN.o;omega
    go_wp2_with fail;go_roundw
    case rel=>exact⟨i+1,min (a+(1+x9+tl)+f9+z9) 65537,HLT1.o,v0.1,v0.2,rfl,rfl,hI HF.o.tail,HK,HR⟩
    case measure=>simp only[intOf];have:=HLT1.o;omega
   exact uFq
end
section
variable {M:World} {l:List TFu}
section
variable {p:Prop}
theorem uF3 (h:p:=by
 go_wp2_with fail;refine (zf false rfl _ _ _).mono ?_;rintro e wz ⟨rfl,⟨hb,rfl⟩ | ⟨hb,rfl⟩⟩
 case inr=>cases hb
 clear hb f_;exact uQp):p:=h
end
theorem zrr (te tl tb:Int) (h0:0≤tl) (h1:tl≤4294967295) (w:World):Calls Tryz.prog 95 #[.agg #[te,tl,tb]] w fun e w'=>e=.returned (.int .i64 (zK7 ⟨te,tl,tb⟩))∧Kp noS w w':=by
 have HB:=hI (Kp.of_below (S:=noS) (bnew w (.cells #[te,tl,tb] 41)));by_cases k0:tl=0
 · subst k0;rw[show zK7 ⟨te,0,tb⟩=4 from rfl];go_enter Tryz.func95,Tryz.ntmps95;go_wp2_with fail;go_ret;exact⟨rfl,HB.o⟩
 have q0:(tl==0)=false:=nB k0;by_cases k2:te=2
 · subst k2;rw[show zK7 ⟨2,tl,tb⟩=(tl+3) / 4*4 by show (if tl=0 then 4 else if (2:Int)=2 then (tl+3) / 4*4 else 4*tl)=_;rw[if_neg k0,if_pos rfl]];have v:IntKind.i64.wrap (tl+3)=tl+3:=by rw[zF];unfold wrap64;omega
   have v1:(tl+3).tdiv 4=(tl+3) / 4:=Int.tdiv_eq_ediv_of_nonneg (by omega);have v1:IntKind.i64.wrap ((tl+3) / 4)=(tl+3) / 4:=by rw[zF];unfold wrap64;omega
   have v1:IntKind.i64.wrap ((tl+3) / 4*4)=(tl+3) / 4*4:=by rw[zF];unfold wrap64;omega
   go_enter Tryz.func95,Tryz.ntmps95;go_wp2_with fail;go_ret;exact⟨rfl,HB.o⟩
 have q2:(te==2)=false:=nB k2;rw[show zK7 ⟨te,tl,tb⟩=4*tl by show (if tl=0 then 4 else if te=2 then (tl+3) / 4*4 else 4*tl)=_;rw[if_neg k0,if_neg k2]];have v:IntKind.i64.wrap (4*tl)=4*tl:=by rw[zF];unfold wrap64;omega
 go_enter Tryz.func95,Tryz.ntmps95;go_wp2_with fail;go_ret;refine⟨zm3 ?_,HB.o⟩;try (unfold wrap64)
 omega
theorem zox {t:TTy} (h0:0≤t.len) (h1:t.len≤4294967295):0≤zK7 t∧zK7 t≤17179869184:=by
 unfold zK7;split
 · omega
 split <;> omega
def zg:TFu:=⟨0,⟨#[]⟩,[],false,⟨0,0,0⟩,[]⟩
theorem zDc {n c:Nat} {A:Option Addr} (h:zj (zHM n) M M.heap.size (.slice A l.length c) l) (k:Nat) (hk:k<l.length) :
  ∃b off Ap cp Ab cb,A=some ⟨b,off,none⟩∧fuSm (l.getD k zg)∧zj zGc M M.heap.size (.slice Ap (l.getD k zg).params.length cp) (l.getD k zg).params∧zj (zM n) M M.heap.size (.slice Ab (l.getD k zg).body.length cb) (l.getD k zg).body∧∀w,Below M.heap.size M w →
   w.cell? ⟨b,off+k*8,none⟩=some (.int .i64 (l.getD k zg).pos)∧w.cell? ⟨b,off+k*8+1,none⟩=some (.string (l.getD k zg).name)∧w.cell? ⟨b,off+k*8+2,none⟩=some (.slice Ap (l.getD k zg).params.length cp)∧w.cell? ⟨b,off+k*8+3,none⟩=some (.bool (l.getD k zg).has) ∧
   w.cell? ⟨b,off+k*8+4,none⟩=some (.int .i64 (l.getD k zg).res.elem)∧w.cell? ⟨b,off+k*8+5,none⟩=some (.int .i64 (l.getD k zg).res.len)∧w.cell? ⟨b,off+k*8+6,none⟩=some (.int .i64 (l.getD k zg).res.label)∧w.cell? ⟨b,off+k*8+7,none⟩=some (.slice Ab (l.getD k zg).body.length cb):=by
 obtain⟨A',c',e,_,hx⟩:=h
 injection e with e1 e2 e3
 subst e1
 obtain⟨b,off,es,e4,hb,⟨h0,vp,vb,rfl,hp,hq⟩,hc⟩:=hx k _ (ztr l k zg hk)
 obtain⟨Ap,cp,ea,_⟩:=hp.shape
 obtain⟨Ab,cb,eb,_⟩:=hq.shape
 subst ea eb
 exact⟨b,off,Ap,cp,Ab,cb,e4,h0,hp,hq,fun w hw=>⟨(hw.cell hb).trans (hc 0 _ rfl),(hw.cell hb).trans (hc 1 _ rfl),(hw.cell hb).trans (hc 2 _ rfl),(hw.cell hb).trans (hc 3 _ rfl),(hw.cell hb).trans (hc 4 _ rfl),(hw.cell hb).trans (hc 5 _ rfl),(hw.cell hb).trans (hc 6 _ rfl),(hw.cell hb).trans (hc 7 _ rfl)⟩⟩
theorem zlz (h:0<l.length):l.getLast? = some (l.getD (l.length-1) zg):=by
 rw[List.getLast?_eq_getElem?,List.getD_eq_getElem?_getD,List.getElem?_eq_getElem (by omega)];rfl
theorem zW0 (i o:Int) (ps:List TPa) (k:Nat) (h:k<ps.length):z8E i o (ps.drop k)=tIf (!decide ((ps.getD k z12).ty.elem=1)) (if (ps.getD k z12).out=true then z8E i (min (o+zK7 (ps.getD k z12).ty) 65537) (ps.drop (k+1)) else z8E (min (i+zK7 (ps.getD k z12).ty) 65537) o (ps.drop (k+1))):=by
 rw[zD ps k z12 h];rfl
theorem zBt {w:World} (m:Nat) (p:List TFu) (A:Option Addr) (c:Nat) (v:Value) (hM:Below M.heap.size M w) (hl:p.length≤65536) (hx:zj (zHM m) M M.heap.size (.slice A p.length c) p) (hk:∀f∈p,∀a∈f.params,0≤a.ty.len∧a.ty.len≤4294967295) (hb:zxP p≠.bad) :
  Calls Tryz.prog 69 #[v,.slice A p.length c] w (zn noS w RUn (zxP p)):=by
 have HXX:=hI hx;have HM:=hI hM;have HKK:=hI hk;have HLN:=hI hl;have HF:=hI (Frm.start (S:=noS) w (fun _ h=>h.elim));obtain⟨r,hr⟩:∃r,zxP p=r:=⟨_,rfl⟩
 rw[hr] at hb ⊢;have HR:=hI hr;have HNB:=hI hb;generalize hPO:zn noS w RUn r=PO;have HPO:=hI hPO;clear hr hPO hb hx hM hk hl;go_enter Tryz.func69,Tryz.ntmps69;by_cases h0:0<p.length
 case neg =>
  obtain rfl:p=[]:=by cases p with | nil=>rfl | cons x l=>exact absurd (by simp) h0
  have HRT:Jd (r=.trap):=hI (by rw[←HR.o];rfl);clear h0;exact uFe
 unfold zxP at HR;rw[zlz h0] at HR;simp only at HR;have hlt:p.length-1<p.length:=by omega
 obtain⟨b,off,Ap,cp,Ab,cb,rfl,hfs,hpa,hbo,hfc⟩:=zDc HXX.o (p.length-1) hlt;have hkk:=HKK.o (p.getD (p.length-1) zg) (by rw[List.getD_eq_getElem?_getD,List.getElem?_eq_getElem hlt];exact List.getElem_mem hlt);generalize p.getD (p.length-1) zg=f at *;obtain⟨fp,fn,ps,fh,⟨re,rl,rb⟩,bd⟩:=f;simp only at hfc hpa hbo hkk HR;have HPA:=hI hpa;have HFC:=hI hfc;have HPL:Jd (ps.length≤65536):=hI hfs.2.1;have HKP:=hI hkk;clear hpa hfc hfs hbo hkk HKK;obtain⟨d0,d1,d2,d3,d4,d5,d6,d7⟩:=HFC.o w HM.o;generalize hpl:p.length=pl at *;have HPL2:=hI hpl;clear hpl;have k0:(0:Int)≤((pl:Nat):Int)-1:=by omega
 have k1:((pl:Nat):Int)-1<(pl:Int):=by omega
 have k2:(((pl:Nat):Int)-1).toNat=pl-1:=by omega
 have k3:IntKind.i64.wrap ((pl:Int)-1)=(pl:Int)-1:=by have:=HLN.o;rw[zF];unfold wrap64;omega
 have k4:(0:Int)<(pl:Int):=by omega
 have k5:¬pl=0:=by omega
 go_wp2_with fail;refine (zf (decide (fn=zqL)) ?hp _ _ _).mono ?_
 case hp=>(have ee:=zOY fn zqL;rwa [show zqL.toList=[109,97,105,110] by rw[ByteArray.toList_eq];rfl] at ee)
 rintro e wz ⟨rfl,⟨hb,rfl⟩ | ⟨hb,rfl⟩⟩
 · have HRT:=hI (ifT HR.o hb);clear hb d0 d1 d2 d3 d4 d5 d6 d7 k0 k1 k2 k3 k4 k5;exact uQp
 replace HR:=hI (ifO HR.o hb);clear hb;go_upto_region 2 with (fail);clear d0 d1 d2 d3 d4 d5 d6 d7 k0 k1 k2 k3 k4 k5;replace HF:=hI (HF.o.alloc 61 [fp,fn,.slice Ap ps.length cp,fh,re,rl,rb,.slice Ab bd.length cb]);generalize w.alloc _=v1 at *;generalize w.heap.size=F at HF ⊢;obtain⟨f0,f1,f2,f3,f4,f5,f6,f7⟩:=blk8 (HF.o.at_ 0 rfl);go_wp2_with fail;refine (zf (!fh) rfl _ _ _).mono ?_;rintro e wz ⟨rfl,⟨hb,rfl⟩ | ⟨hb,rfl⟩⟩
 · have HRT:=hI (ifT HR.o hb);clear hb f0 f1 f2 f3 f4 f5 f6 f7;exact uQp
 replace HR:=hI (ifO HR.o hb);clear hb;have HR0:Jd (((z8E 0 0 (ps.drop 0)).bind fun r=>tIf (decide (r.1≤65536) && decide (r.2≤65536)) (.ok ()))=r):=hI (by rw[List.drop_zero];exact HR.o);clear HR;go_wp2_with fail;clear f0 f1 f2 f3 f4 f5 f6 f7;have HM1:=hI (HM.o.trans ((kb HF.o.kp).mono HM.o.size));go_loopw [5,6,38] (fun vi vo vk wr=>∃(k:Nat) (i o:Int),k≤ps.length∧(0≤i∧i≤65537)∧(0≤o∧o≤65537)∧vk=.int .i64 k∧vi=.int .i64 i∧vo=.int .i64 o∧Jd (Frm noS w wr [(F, 61,[fp,fn,.slice Ap ps.length cp,fh,re,rl,rb,.slice Ab bd.length cb])] [])∧Jd (((z8E i o (ps.drop k)).bind fun r=>tIf (decide (r.1≤65536) && decide (r.2≤65536)) (.ok ()))=r)) (fun _ _ vk _=>ps.length-(intOf vk).toNat)
 case atStart=>exact⟨0,0,0,Nat.zero_le _,by decide,by decide,rfl,rfl,rfl,HF,HR0⟩
 case round =>
  clear HF HR0 HM1;obtain⟨k,i,o,hi,hi2,ho2,rfl,rfl,rfl,HF,HR⟩:=hrel;have HM1:=hI (HM.o.trans ((kb HF.o.kp).mono HM.o.size));by_cases hlt:k<ps.length
  case pos =>
   obtain⟨pb,poff,rfl,_,hpc⟩:=zks HPA.o k hlt;have hrt:=HR.o;rw[zW0 i o ps k hlt] at hrt;have hkp:=HKP.o (ps.getD k z12) (by rw[List.getD_eq_getElem?_getD,List.getElem?_eq_getElem hlt];exact List.getElem_mem hlt);generalize ps.getD k z12=a at *;obtain⟨ap,an,⟨ae,al,ab⟩,ao⟩:=a;simp only at hpc hrt hkp;rw[zbW] at hrt;replace HR:=hI hrt;clear hrt;have HLT1:=hI hlt;have HKA:=hI hkp;have HI2:=hI (And.intro hi2 ho2);obtain⟨d0,d1,d2,d3,d4,d5⟩:=hpc wr HM1.o;have k0:(0:Int)≤(k:Int):=by omega
   have k1:(k:Int)<(ps.length:Int):=by omega
   clear hpc hlt hi hkp hi2 ho2;go_upto_region 7 with (fail);clear d0 d1 d2 d3 d4 d5 k0 k1;replace HF:=hI (HF.o.alloc 65 [ap,an,ae,al,ab,ao]);generalize wr.alloc _=v1 at *;generalize wr.heap.size=P at HF ⊢;have p_:=blk6 (HF.o.at_ 0 rfl);go_wp2_with fail;refine (zf (!decide (ae=1)) rfl _ _ _).mono ?_;rintro e wz ⟨rfl,⟨hb,rfl⟩ | ⟨hb,rfl⟩⟩
   · have HRT:=hI (ifT HR.o hb);clear hb p_;exact uQp
   replace HR:=hI (ifO HR.o hb);clear hb;obtain⟨⟨i0,i1⟩,o0,o1⟩:=HI2.o;obtain⟨t0,t1⟩:=zox (t:=⟨ae,al,ab⟩) HKA.o.1 HKA.o.2;obtain⟨t9,ht9⟩:∃z,zK7 ⟨ae,al,ab⟩=z:=⟨_,rfl⟩
   rw[ht9] at t0 t1 HR;have HT9:=hI ht9;clear ht9;cases ao
   case true =>
    go_wp2_with fail;refine (zrr ae al ab HKA.o.1 HKA.o.2 _).mono ?_;rintro e v1 ⟨rfl,hk⟩;rw[HT9.o];replace HF:=hI (HF.o.call hk);clear hk p_;have g1:IntKind.i64.wrap (o+t9)=o+t9:=by rw[zF];unfold wrap64;omega
    have hz0:(0:Int)≤(k:Int):=by omega
    have hz1:(k:Int)<65537:=by have:=HLT1.o;have:=HPL.o;omega
    try simp only[if_true] at HR
    go_wp2_with fail;go_roundw
    case rel=>exact⟨k+1,i,(min (o+t9) 65537),HLT1.o,⟨by omega,by omega⟩,⟨by omega,by omega⟩,rfl,by first | rfl | (congr 1;omega) | (congr 1;split <;> omega),by first | rfl | (congr 1;omega) | (congr 1;split <;> omega),hI HF.o.tail,HR⟩
    case measure=>simp only[intOf];have:=HLT1.o;omega
   go_wp2_with fail;refine (zrr ae al ab HKA.o.1 HKA.o.2 _).mono ?_;rintro e v1 ⟨rfl,hk⟩;rw[HT9.o];replace HF:=hI (HF.o.call hk);clear hk p_;have g1:IntKind.i64.wrap (i+t9)=i+t9:=by rw[zF];unfold wrap64;omega
   have hz0:(0:Int)≤(k:Int):=by omega
   have hz1:(k:Int)<65537:=by have:=HLT1.o;have:=HPL.o;omega
   try simp only[Bool.false_eq_true,if_false] at HR
   go_wp2_with fail;go_roundw
   case rel=>exact⟨k+1,(min (i+t9) 65537),o,HLT1.o,⟨by omega,by omega⟩,⟨by omega,by omega⟩,rfl,by first | rfl | (congr 1;omega) | (congr 1;split <;> omega),by first | rfl | (congr 1;omega) | (congr 1;split <;> omega),hI HF.o.tail,HR⟩
   case measure=>simp only[intOf];have:=HLT1.o;omega
  obtain rfl:k=ps.length:=by omega
  have hrt:=HR.o;rw[List.drop_length] at hrt;replace HR:Jd (tIf (decide (i≤65536) && decide (o≤65536)) (.ok ())=r):=hI hrt;clear hrt hi hlt;by_cases h1:i≤65536
  case neg=>have q1:decide (i≤65536)=false:=decide_eq_false h1;have f_:=blk8 (HF.o.at_ 0 rfl);have HRT:=hI (ifT HR.o (by simp[h1]));exact uF3
  have q1:decide (i≤65536)=true:=decide_eq_true h1;have f_:=blk8 (HF.o.at_ 0 rfl);replace HR:Jd (tIf (decide (o≤65536)) (.ok ())=r):=hI (by have h9:=HR.o;rw[q1,Bool.true_and] at h9;exact h9);go_wp2_with fail;refine (zf (decide (o≤65536)) rfl _ _ _).mono ?_;rintro e wz ⟨rfl,⟨hb,rfl⟩ | ⟨hb,rfl⟩⟩
  · have HRT:=hI (ifT HR.o hb);clear hb f_;exact uQp
  replace HR:=hI (ifO HR.o hb);clear hb;exact uY1
end
end Go.Proofs.YtfibdoehmndinaaGreatDoor
