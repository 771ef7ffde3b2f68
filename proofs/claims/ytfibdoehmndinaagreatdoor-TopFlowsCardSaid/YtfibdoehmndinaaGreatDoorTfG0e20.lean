/- Parts of a proof, joined. No condition but those that each theorem names. -/
import Derived.Test.YtfibdoehmndinaaGreatDoorTfG0e14
import Derived.Test.YtfibdoehmndinaaGreatDoorTfG0e19
import Derived.Test.YtfibdoehmndinaaGreatDoorTfG0e17
namespace Go.Proofs.YtfibdoehmndinaaGreatDoor
open Go.RowKit
set_option linter.unusedVariables false
set_option maxRecDepth 100000
set_option maxHeartbeats 1000000
section
variable {p:Prop}
theorem uGa (h:p:=by
 have h5:((c:Int)==95)=false:=by rw[beq_eq_false_iff_ne];omega
 have hv:zPi c=false:=by unfold zPi;simp;omega
 rw[hv];clear hv;go_enter Tryz.func56,Tryz.ntmps56;go_wp2_with fail;go_ret;exact⟨zI (by try simp[*]),rfl⟩):p:=h
theorem uK7 (h:p:=by
 rw[if_neg (by omega)];simp only;clear hc;go_enter Tryz.func82,Tryz.ntmps82;go_wp2_with fail;refine (HD.o W).mono ?_;rintro e w2 ⟨rfl,hw⟩;subst hw;go_wp2_with fail;go_ret2;exact⟨rfl,rfl⟩):p:=h
theorem uAC (h:p:=by
 go_enter Tryz.func53,Tryz.ntmps53;go_wp2_with fail;go_ret;exact⟨rfl,rfl⟩):p:=h
theorem uCl (h:p:=by
 rw[hv];clear hv;go_enter Tryz.func58,Tryz.ntmps58;go_wp2_with fail;go_ret;exact⟨zI (by try simp[*]),rfl⟩):p:=h
theorem uCc (h:p:=by
 skip;have hv:zPi c=true:=by unfold zPi;simp;omega
 rw[hv];clear hv;go_enter Tryz.func56,Tryz.ntmps56;go_wp2_with fail;go_ret;exact⟨zI (by try simp[*]),rfl⟩):p:=h
end
theorem zSn (s:ByteArray) (i:Nat) (h:i≤s.size) (hs:s.size≤1048576) (W:World):(Instr.slice 9 (.string s) (some (.int .i64 (i:Int))) none none).run Tryz.prog W=.ok (.string (s.extract i s.size)) W:=by
 have h1:=run_slice_string W 9 s .i64 .i64 (i:Int) (s.size:Int) Tryz.underlying9 (by omega) (by omega) (by omega);rw[Int.toNat_natCast,Int.toNat_natCast] at h1;rw[←h1];simp[Instr.slice,go_sem]
theorem zKn (s:ByteArray) (i j:Nat) (h:i≤j) (hj:j≤s.size) (hs:s.size≤1048576) (W:World):(Instr.slice 9 (.string s) (some (.int .i64 (i:Int))) (some (.int .i64 (j:Int))) none).run Tryz.prog W=.ok (.string (s.extract i j)) W:=by
 have h1:=run_slice_string W 9 s .i64 .i64 (i:Int) (j:Int) Tryz.underlying9 (by omega) (by omega) (by omega);rw[Int.toNat_natCast,Int.toNat_natCast] at h1;exact h1
theorem zua (c:Nat) (W:World):Calls Tryz.prog 53 #[.int .u8 (c:Int)] W fun e w'=>e=.returned (.bool (zDY c))∧w'=W:=by
 by_cases h32:c=32
 · subst h32;exact uAC
 have q32:((c:Int)==32)=false:=by rw[beq_eq_false_iff_ne];omega
 by_cases h9:c=9
 · subst h9;exact uAC
 have q9:((c:Int)==9)=false:=by rw[beq_eq_false_iff_ne];omega
 by_cases h10:c=10
 · subst h10;exact uAC
 have q10:((c:Int)==10)=false:=by rw[beq_eq_false_iff_ne];omega
 by_cases h13:c=13
 · subst h13;exact uAC
 have q13:((c:Int)==13)=false:=by rw[beq_eq_false_iff_ne];omega
 have hv:zDY c=false:=by unfold zDY;simp[h32,h9,h10,h13]
 rw[hv];clear hv h32 h9 h10 h13;exact uAC
theorem zXB (c:Nat) (W:World):Calls Tryz.prog 58 #[.int .u8 (c:Int)] W fun e w'=>e=.returned (.bool (zDE c))∧w'=W:=by
 by_cases h1:(48:Int)≤(c:Int)
 · skip;by_cases h2:(c:Int)≤57
   · skip;have hv:zDE c=true:=by unfold zDE;simp;omega
     exact uCl
   have nh2:¬(c:Int)≤57:=by omega
   have hv:zDE c=false:=by unfold zDE;simp;omega
   exact uCl
 have nh1:¬(48:Int)≤(c:Int):=by omega
 have hv:zDE c=false:=by unfold zDE;simp;omega
 exact uCl
theorem zZP (c:Nat) (W:World):Calls Tryz.prog 56 #[.int .u8 (c:Int)] W fun e w'=>e=.returned (.bool (zPi c))∧w'=W:=by
 by_cases h1:(97:Int)≤(c:Int)
 · by_cases h2:(c:Int)≤122
   · exact uCc
   have h3:(65:Int)≤(c:Int):=by omega
   have h4:¬(c:Int)≤90:=by omega
   exact uGa
 by_cases h3:(65:Int)≤(c:Int)
 · by_cases h4:(c:Int)≤90
   · exact uCc
   by_cases h95:c=95
   · subst h95;go_enter Tryz.func56,Tryz.ntmps56;go_wp2_with fail;go_ret;exact⟨rfl,rfl⟩
   exact uGa
 exact uGa
theorem zpK (c base:Nat) (hc:c<256) (hb:base=10∨base=16) (W:World):Calls Tryz.prog 82 #[.int .u8 (c:Int),base] W fun e w'=>e=.returned (match zyk c base with
  | some v=>.tuple #[v,true]
  | none=>.tuple #[.int .i64 0,false])∧w'=W:=by
 have HD:=hI (zXB c);unfold zyk;cases hd:zDE c
 case true =>
  rw[if_pos rfl];have h1:48≤c:=by unfold zDE at hd;simp at hd;omega
  simp only;rw[hd] at HD;have HCC:=hI (And.intro h1 hc);clear hc;go_enter Tryz.func82,Tryz.ntmps82;go_wp2_with fail;refine (HD.o W).mono ?_;rintro e w2 ⟨rfl,hw⟩;subst hw;have k0:(48:Int)≤(c:Int):=by have:=HCC.o.1;omega
  have k1:(c:Int)<256:=by have:=HCC.o.2;omega
  go_wp2_with fail;go_ret2;exact⟨by rw[show ((c-48:Nat):Int)=(c:Int)-48 by omega];rfl,rfl⟩
 rw[if_neg (by simp)];rw[hd] at HD;rcases hb with rfl | rfl
 · exact uK7
 by_cases h1:(97:Int)≤(c:Int)
 · by_cases h2:(c:Int)≤102
   · rw[if_pos ⟨by decide,by omega,by omega⟩];simp only;have k1:(c:Int)<256:=by omega
     clear hc;go_enter Tryz.func82,Tryz.ntmps82;go_wp2_with fail;refine (HD.o W).mono ?_;rintro e w2 ⟨rfl,hw⟩;subst hw;go_wp2_with fail;go_ret2;exact⟨by rw[show ((c-97+10:Nat):Int)=(c:Int)-97+10 by omega];rfl,rfl⟩
   exact uK7
 exact uK7
section
variable {gb i mb q:Nat} {s:ByteArray} {v:Value} {w w':World}
section
variable {p:Prop}
theorem uMn (h:p:=by
 subst hw;go_wp2_with fail;go_roundw
 case rel=>exact⟨n+1,f,by go_num,by have:=HN.o;omega,HLT.o,by have:=HN.o;omega,HE,HL.o,HB.o⟩
 case measure=>simp[intOf];have:=HLT.o;omega):p:=h
end
theorem zsZ (s:ByteArray) (i j:Nat):(s.extract i j).data.toList=(s.data.toList.drop i).take (j-i):=by
 have h:=ByteArray.extract_mk s.data.toList i j;have e:(ByteArray.mk s.data.toList.toArray)=s:=by cases s;simp
 rw[e] at h;rw[h]
theorem zR3 (s:ByteArray) (i j:Nat) (h:i≤j) (hj:j≤s.size):(s.extract i j).size=j-i:=by
 have:=zsZ s i j;have h2:(s.extract i j).data.toList.length=j-i:=by rw[this,List.length_take,List.length_drop];have:s.data.toList.length=s.size:=rfl;omega
 exact h2
theorem zeS {a b:ByteArray} (h:a.data.toList=b.data.toList):a=b:=by
 cases a;cases b;simp only at h;rw[Array.toList_inj.1 h]
theorem zxt (s x:ByteArray) (i:Nat):Lib.hasPrefix (s.extract i s.size).data.toList x.data.toList=zgp s i x:=by
 unfold Lib.hasPrefix zgp;rw[Bool.eq_iff_iff,List.isPrefixOf_iff_prefix,decide_eq_true_eq,List.prefix_iff_eq_take,zsZ,List.take_take];have hl:x.data.toList.length=x.size:=rfl;have hs:s.data.toList.length=s.size:=rfl
 have hm:(s.data.toList.drop i).take (min x.data.toList.length (s.size-i))=(s.data.toList.drop i).take x.size:=by
  rw[hl];rcases Nat.le_total x.size (s.size-i) with h | h
  · rw[Nat.min_eq_left h]
  rw[Nat.min_eq_right h,List.take_of_length_le (by rw[List.length_drop,hs];exact Nat.le_refl _),List.take_of_length_le (by rw[List.length_drop,hs];exact h)]
 rw[hm];constructor
 · intro h;refine zeS ?_;rw[zsZ,Nat.add_sub_cancel_left];exact h.symm
 intro h;have:=congrArg (fun a=>(ByteArray.data a).toList) h;rw[zsZ,Nat.add_sub_cancel_left] at this;exact this.symm
theorem zKp (s:ByteArray) (i:Nat) (h:i<s.size):s.data.toList.drop i=s.data.toList.getD i 0::s.data.toList.drop (i+1):=by
 have hl:i<s.data.toList.length:=h;rw[List.drop_eq_getElem_cons hl,List.getD_eq_getElem?_getD,List.getElem?_eq_getElem hl];rfl
theorem zDG (s:ByteArray):∀(f i:Nat),i≤s.size→s.size-i≤f→(lxLine s f i:Int)=if Lib.indexByte (s.data.toList.drop i) 10<0 then (s.size:Int) else (i:Int)+Lib.indexByte (s.data.toList.drop i) 10
 | 0,i,h1,h2=>by
  have:s.data.toList.drop i=[]:=List.drop_eq_nil_of_le (show s.size≤i by omega)
  rw[this]
  have hi:i=s.size:=by omega
  simp[Lib.indexByte,lxLine,hi]
 | f+1,i,h1,h2=>by
  unfold lxLine
  by_cases hlt:i<s.size
  · rw[if_pos hlt,zKp s i hlt]
    have hge:=Lib.indexByte_ge (s.data.toList.drop (i+1)) 10
    unfold Lib.indexByte
    by_cases hc:bAt s i=10
    · rw[if_pos hc]
      have e:s.data.toList.getD i 0=10:=UInt8.toNat_inj.1 hc
      rw[e];simp
    rw[if_neg hc,zDG s f (i+1) (by omega) (by omega)]
    have e:(s.data.toList.getD i 0==10)=false:=by
     rw[beq_eq_false_iff_ne];intro e;exact hc (by unfold bAt;rw[e];rfl)
    rw[e]
    simp only[Bool.false_eq_true,if_false]
    by_cases hm:Lib.indexByte (s.data.toList.drop (i+1)) 10=-1
    · rw[hm];simp
    have e2:(Lib.indexByte (s.data.toList.drop (i+1)) 10 == -1)=false:=by rw[beq_eq_false_iff_ne];exact hm
    rw[e2]
    simp only[Bool.false_eq_true,if_false]
    rw[if_neg (by omega),if_neg (by omega)]
    omega
  · rw[if_neg hlt]
    have:s.data.toList.drop i=[]:=List.drop_eq_nil_of_le (show s.size≤i by omega)
    rw[this]
    have hi:i=s.size:=by omega
    simp[Lib.indexByte,hi]
theorem zKF (s:ByteArray):∀(f i:Nat),i≤lxLine s f i
 | 0,i=>Nat.le_refl _
 | f+1,i=>by
  unfold lxLine
  split
  · split
    · exact Nat.le_refl _
    have:=zKF s f (i+1);omega
  · exact Nat.le_refl _
theorem zeQ (s:ByteArray):∀(f i:Nat),i≤s.size→lxLine s f i≤s.size
 | 0,i,h=>h
 | f+1,i,h=>by
  unfold lxLine
  split
  · split
    · exact h
    exact zeQ s f (i+1) (by omega)
  · exact h
structure LxAt (w:World) (q mb gb:Nat) (s:ByteArray) (i:Nat) (v:Value):Prop where
 blk:w.heap[q]? = some (.cells #[s,i,.map (some mb),.slice (some ⟨gb,0,none⟩) 26 26,v] 105 (0,0))
 sgn:w.heap[gb]? = some (.cells (zut.map fun x=>Value.string x).toArray 9 (0,0))
 wrd:∃f:ByteArray→Option Value,MapV w mb 19 f∧∀k,(f k).isSome=zC7.any fun x=>decide (x=k)
 pos:i≤s.size
 big:s.size≤65536
 ne:mb<q∧gb<q
theorem LxAt.lt (h:LxAt w q mb gb s i v):q<w.heap.size:=zh h.blk
theorem LxAt.keep (h:LxAt w q mb gb s i v) {row:Option Nat} (hg:w.grownBy w' row) (hr:∀g,row=some g→q<g):LxAt w' q mb gb s i v:=by
 have hq:=h.lt;obtain⟨f,h1,h2⟩:=h.wrd;refine⟨?_,?_,⟨f,h1.keep hg (fun e=>by have:=hr _ e.symm;have:=h.ne.1;omega),h2⟩,h.pos,h.big,h.ne⟩
 · rw[hg.block q hq (fun e=>by have:=hr _ e.symm;omega)];exact h.blk
 rw[hg.block gb (zh h.sgn) (fun e=>by have:=hr _ e.symm;have:=h.ne.2;omega)];exact h.sgn
theorem LxAt.below (h:LxAt w q mb gb s i v) (hb:Below w.heap.size w w'):LxAt w' q mb gb s i v:=h.keep (zeK (r:=none) hb) (by simp)
theorem LxAt.drew (h:LxAt w q mb gb s i v):LxAt w.drew q mb gb s i v:=h.below (bdr (Below.refl _ _))
theorem LxAt.put (h:LxAt w q mb gb s i v) {z:Int} {j:Nat} (hz:z=(j:Int)) (hj:j≤s.size):LxAt (w.setCell ⟨q,1,none⟩ (.int .i64 z)) q mb gb s j v:=by
 subst hz;obtain⟨f,h1,h2⟩:=h.wrd;refine⟨by simpa using zPw h.blk 1 (.int .i64 (j:Int)),?_,⟨f,h1.setCell ⟨q,1,none⟩ _ (by have:=h.ne.1;show q≠mb;omega),h2⟩,hj,h.big,h.ne⟩;rw[Below.heap_setCell w ⟨q,1,none⟩ _ gb (by have:=h.ne.2;show gb≠q;omega)];exact h.sgn
theorem LxAt.putV (h:LxAt w q mb gb s i v) (v':Value):LxAt (w.setCell ⟨q,4,none⟩ v') q mb gb s i v':=by
 obtain⟨f,h1,h2⟩:=h.wrd;refine⟨by simpa using zPw h.blk 4 v',?_,⟨f,h1.setCell ⟨q,4,none⟩ _ (by have:=h.ne.1;show q≠mb;omega),h2⟩,h.pos,h.big,h.ne⟩;rw[Below.heap_setCell w ⟨q,4,none⟩ _ gb (by have:=h.ne.2;show gb≠q;omega)];exact h.sgn
theorem zsx {W:World} (h:LxAt W q mb gb s i v) :
  Calls Tryz.prog 57 #[.pointer (some ⟨q,0,none⟩)] W fun e w'=>e=.returned (.string (s.extract i (zaO s s.size i)))∧Below W.heap.size W w':=by
 have HL:=hI h;have HS:=hI h.big;have HPI:=hI h.pos;obtain⟨T,hT⟩:∃T,zaO s s.size i=T:=⟨_,rfl⟩
 rw[hT];have HT:=hI hT;clear hT;generalize hPO:(fun (e:Ending) (w':World)=>e=.returned (.string (s.extract i T))∧Below W.heap.size W w')=PO;have HPO:=hI hPO;clear hPO h;go_enter Tryz.func57,Tryz.ntmps57;obtain⟨l1,lf1⟩:=zz HL.o.blk 1;go_wp2_with fail;clear l1 lf1;go_loopw [3] (fun vn wr=>∃(n f:Nat),vn=.int .i64 (n:Int)∧i≤n∧n≤s.size∧s.size-n≤f∧Jd (zaO s f n=T)∧LxAt wr q mb gb s i v∧Below W.heap.size W wr) (fun vn _=>s.size-(intOf vn).toNat)
 case atStart=>exact⟨i,s.size,rfl,Nat.le_refl _,HPI.o,Nat.sub_le _ _,HT,HL.o,Below.refl _ _⟩
 case round =>
  clear HL;obtain⟨n,f,rfl,hin,hns,hf,HE,hl,hb⟩:=hrel;have HL:=hI hl;have HB:=hI hb;have HN:=hI (And.intro hin (And.intro hns hf));clear hl hb hin hns hf;obtain⟨l0,lf0⟩:=zz HL.o.blk 0;have hlen:(s.size:Int)<1000000:=by have:=HS.o;omega
  have hn0:(0:Int)≤(n:Int):=by omega
  by_cases hlt:n<s.size
  · have k1:(n:Int)<(s.size:Int):=by omega
    have hix:=zi7 s n (n:Int) rfl hlt;obtain⟨f,rfl⟩:∃f2,f=f2+1:=⟨f-1,by have:=HN.o.2.2;omega⟩
    have he:=HE.o;unfold zaO at he;rw[if_pos hlt] at he;obtain⟨c,hc⟩:∃c,(s.data.toList.getD n 0).toNat=c:=⟨_,rfl⟩
    have hcb:bAt s n=c:=hc;rw[hc] at hix;rw[hcb] at he;replace HE:=hI he;clear he hc hcb;have HLT:=hI hlt;clear hlt;cases hb1:zPi c
    case true=>have he:=HE.o;rw[hb1] at he;simp only[Bool.true_or,if_true] at he;replace HE:=hI he;clear he;have HC:=hI (zZP c);rw[hb1] at HC;clear hb1;go_wp2_with fail;refine (HC.o wr).mono ?_;rintro e v1 ⟨rfl,hw⟩;exact uMn
    cases hb2:zDE c
    case true=>have he:=HE.o;rw[hb1,hb2] at he;simp only[Bool.false_or,if_true] at he;replace HE:=hI he;clear he;have HC:=hI (zZP c);rw[hb1] at HC;have HD:=hI (zXB c);rw[hb2] at HD;clear hb1 hb2;go_wp2_with fail;refine (HC.o wr).mono ?_;rintro e v1 ⟨rfl,hw⟩;subst hw;go_wp2_with fail;refine (HD.o _).mono ?_;rintro e v2 ⟨rfl,hw⟩;exact uMn
    have he:=HE.o;rw[hb1,hb2] at he;simp only[Bool.or_self,Bool.false_eq_true,if_false] at he;replace HE:=hI he;clear he;have HC:=hI (zZP c);rw[hb1] at HC;have HD:=hI (zXB c);rw[hb2] at HD;clear hb1 hb2;have HLE:Jd (i≤n∧n≤s.size):=hI ⟨HN.o.1,HN.o.2.1⟩;go_wp2_with fail;refine (HC.o wr).mono ?_;rintro e v1 ⟨rfl,hw⟩;subst hw;go_wp2_with fail;refine (HD.o _).mono ?_;rintro e v2 ⟨rfl,hw⟩;subst hw;clear l0 lf0 hlen hn0 k1 hix;replace HB:=hI (bdr HB.o);go_upto_region 4 with (fail);refine wL (fun w'=>w'.heap[q]? = some (.cells #[s,i,.map (some mb),.slice (some ⟨gb,0,none⟩) 26 26,v] 105 (0,0))) 99 ?_;replace HL:=hI HL.o.drew;generalize hwd:v2.drew=wd at *;clear hwd;refine tg 0 35 (.pointer (some ⟨q,0,none⟩)) HL.o.blk ?_;refine tg 1 36 (.pointer (some ⟨q,0,none⟩)) HL.o.blk ?_;refine tg 2 37 (.pointer (some ⟨q,0,none⟩)) HL.o.blk ?_;refine tk 3 38 (.string s) ?_ HL.o.blk ?_
    · exact uS2
    refine tg 4 39 (.pointer (some ⟨q,0,none⟩)) HL.o.blk ?_;refine tg 5 40 (.pointer (some ⟨q,0,none⟩)) HL.o.blk ?_;refine tg 6 41 (.pointer (some ⟨q,1,none⟩)) HL.o.blk ?_;refine tk 7 42 (.int .i64 (i:Int)) ?_ HL.o.blk ?_
    · exact uZM
    refine tg 8 43 (.int .i64 (n:Int)) HL.o.blk ?_;refine tk 9 44 (.string (s.extract i n)) ?_ HL.o.blk ?_
    · intro wz hSz;have hsl:=zKn s i n HLE.o.1 HLE.o.2 (by have:=HS.o;omega);go_simp
    refine tg 10 2 (.string (s.extract i n)) HL.o.blk ?_;try simp only[Act.put,pA,pB,pC]
    refine wD ?_ _;go_wp2_with fail;rw[←HPO.o];exact⟨by rw[←HE.o];rfl,HB.o⟩
  obtain rfl:n=s.size:=by have:=HN.o;omega
  have k9:¬((s.size:Int)<(s.size:Int)):=by omega
  have he:zaO s f s.size=s.size:=by cases f <;> simp[zaO]
  have HE2:Jd (s.size=T):=hI (he.symm.trans HE.o);clear HE he;have HE:=HE2;clear HE2;have HLE:Jd (i≤s.size∧s.size≤s.size):=hI ⟨HN.o.1,Nat.le_refl _⟩;go_upto_region 4 with (fail);clear l0 lf0 hlen hn0 k9 hlt;replace HB:=hI (bdr HB.o);go_upto_region 4 with (fail);refine wL (fun w'=>w'.heap[q]? = some (.cells #[s,i,.map (some mb),.slice (some ⟨gb,0,none⟩) 26 26,v] 105 (0,0))) 99 ?_;replace HL:=hI HL.o.drew;generalize hwd:wr.drew=wd at *;clear hwd;refine tg 0 35 (.pointer (some ⟨q,0,none⟩)) HL.o.blk ?_;refine tg 1 36 (.pointer (some ⟨q,0,none⟩)) HL.o.blk ?_;refine tg 2 37 (.pointer (some ⟨q,0,none⟩)) HL.o.blk ?_;refine tk 3 38 (.string s) ?_ HL.o.blk ?_
  · exact uS2
  refine tg 4 39 (.pointer (some ⟨q,0,none⟩)) HL.o.blk ?_;refine tg 5 40 (.pointer (some ⟨q,0,none⟩)) HL.o.blk ?_;refine tg 6 41 (.pointer (some ⟨q,1,none⟩)) HL.o.blk ?_;refine tk 7 42 (.int .i64 (i:Int)) ?_ HL.o.blk ?_
  · exact uZM
  refine tg 8 43 (.int .i64 (s.size:Int)) HL.o.blk ?_;refine tk 9 44 (.string (s.extract i s.size)) ?_ HL.o.blk ?_
  · intro wz hSz;have hsl:=zKn s i s.size HLE.o.1 HLE.o.2 (by have:=HS.o;omega);go_simp
  refine tg 10 2 (.string (s.extract i s.size)) HL.o.blk ?_;try simp only[Act.put,pA,pB,pC]
  refine wD ?_ _;go_wp2_with fail;rw[←HPO.o];exact⟨by rw[←HE.o];rfl,HB.o⟩
end
section
variable {gb i mb q:Nat} {s:ByteArray} {v:Value}
section
variable {p:Prop}
theorem uWC (h:p:=by
 intro wz hSz;have hsl:=zSn s n (Nat.le_of_lt HLT.o) (by have:=HS.o;omega);go_simp):p:=h
end
theorem zhi (s:ByteArray) (i:Nat):(s.extract i s.size).data.toList=s.data.toList.drop i:=by
 rw[zsZ,List.take_of_length_le];rw[List.length_drop];exact Nat.le_refl _
theorem zKY (s:ByteArray) (i:Nat) (h:i<s.size):zgp s i ⟨#[47,47]⟩=decide (bAt s i=47∧i+1<s.size∧bAt s (i+1)=47):=by
 rw[←zxt,zhi,zKp s i h];unfold Lib.hasPrefix;have hb:∀k,(s.data.toList.getD k 0=47)=(bAt s k=47):=fun k=>by unfold bAt;exact propext ⟨fun e=>by rw[e];rfl,fun e=>UInt8.toNat_inj.1 e⟩
 by_cases h1:i+1<s.size
 · rw[zKp s (i+1) h1,Bool.eq_iff_iff,decide_eq_true_eq,←hb i,←hb (i+1)];generalize s.data.toList.getD i 0=a;generalize s.data.toList.getD (i+1) 0=b;show ((47:UInt8)==a && ((47:UInt8)==b && true))=true↔_;rw[Bool.and_true,Bool.and_eq_true,beq_iff_eq,beq_iff_eq];exact⟨fun h=>⟨h.1.symm,h1,h.2.symm⟩,fun h=>⟨h.1.symm,h.2.2.symm⟩⟩
 have:s.data.toList.drop (i+1)=[]:=List.drop_eq_nil_of_le (show s.size≤i+1 by omega);rw[this];simp[List.isPrefixOf,h1]
theorem LxAt.posN {w:World} (h:LxAt w q mb gb s i v):zyK q w=i:=by
 unfold zyK;rw[(zz h.blk 1).1];simp
theorem zoC (s:ByteArray) (i:Nat) (h:i<s.size) (hb:bAt s i≠10):i<lxLine s s.size i:=by
 cases hs:s.size
 case zero=>omega
 rename_i f;unfold lxLine;rw[if_pos h,if_neg hb];have:=zKF s f (i+1);omega
theorem z2O {W:World} (h:LxAt W q mb gb s i v) :
  Calls Tryz.prog 31 #[.pointer (some ⟨q,0,none⟩)] W fun e w'=>e=.returned (.tuple #[])∧LxAt w' q mb gb s (zKs s s.size i) v∧Kp (qS q) W w':=by
 have HL:=hI h;have HS:=hI h.big;obtain⟨T,hT⟩:∃T,zKs s s.size i=T:=⟨_,rfl⟩
 rw[hT];have HT:=hI hT;clear hT;generalize hPO:(fun (e:Ending) (w':World)=>e=.returned (.tuple #[])∧LxAt w' q mb gb s T v∧Kp (qS q) W w')=PO;have HPO:=hI hPO;clear hPO h;go_enter Tryz.func31,Tryz.ntmps31;go_wp2_with fail;go_loopw [2] (fun _ wr=>∃(n f:Nat),LxAt wr q mb gb s n v∧Kp (qS q) W wr∧s.size-n≤f∧Jd (zKs s f n=T)) (fun _ wr=>s.size-zyK q wr)
 case atStart=>exact⟨i,s.size,HL.o,Kp.refl _ _,Nat.sub_le _ _,HT⟩
 case round =>
  clear HL;obtain⟨n,f,hl,hk,hf,HE⟩:=hrel;have HL:=hI hl;have HK:=hI hk;have HF:=hI hf;have HPN:Jd (zyK q wr=n):=hI (by unfold zyK;rw[(zz hl.blk 1).1];simp);have hns:=hl.pos;clear hl hk hf;have hlen:(s.size:Int)<1000000:=by have:=HS.o;omega
  have hn0:(0:Int)≤(n:Int):=by omega
  by_cases hlt:n<s.size
  · have k1:(n:Int)<(s.size:Int):=by omega
    obtain⟨f,rfl⟩:∃f2,f=f2+1:=⟨f-1,by have:=HF.o;omega⟩
    have he:=HE.o;unfold zKs at he;rw[if_pos hlt] at he;have HLT:=hI hlt;go_upto_region 0 with (fail);refine wL (fun w'=>w'.heap[q]? = some (.cells #[s,n,.map (some mb),.slice (some ⟨gb,0,none⟩) 26 26,v] 105 (0,0))) 99 ?_;replace HL:=hI HL.o.drew;have HKd:=hI (HK.o.trans (Kp.of_below (bdr (Below.refl _ _))) (fun _ _ h=>h));replace HK:=HKd;clear HKd;generalize hwd:wr.drew=wd at *;clear hwd;refine tg 0 3 (.pointer (some ⟨q,0,none⟩)) HL.o.blk ?_;refine tg 1 4 (.pointer (some ⟨q,0,none⟩)) HL.o.blk ?_;refine tg 2 5 (.pointer (some ⟨q,1,none⟩)) HL.o.blk ?_;refine tk 3 6 (.int .i64 (n:Int)) ?_ HL.o.blk ?_
    · exact uZM
    refine tg 4 7 (.pointer (some ⟨q,0,none⟩)) HL.o.blk ?_;refine tg 5 8 (.pointer (some ⟨q,0,none⟩)) HL.o.blk ?_;refine tg 6 9 (.pointer (some ⟨q,0,none⟩)) HL.o.blk ?_;refine tk 7 10 (.string s) ?_ HL.o.blk ?_
    · exact uS2
    refine tg 8 11 (.int .i64 (s.size:Int)) HL.o.blk ?_;refine tg 9 12 (.bool true) HL.o.blk ?_;try simp only[Act.put,pA,pB,pC]
    refine wD ?_ _;obtain⟨c,hc⟩:∃c,(s.data.toList.getD n 0).toNat=c:=⟨_,rfl⟩
    have hcb:bAt s n=c:=hc;have hix:=fun W=>zi7 s n (n:Int) rfl hlt W;rw[hc] at hix;rw[hcb] at he;have HCB:=hI hcb;clear hc hcb;cases hbl:zDY c
    case true =>
     rw[hbl] at he;simp only[if_true] at he;replace HE:=hI he;have HBL:=hI (zua c);rw[hbl] at HBL;clear he hbl hlt;go_upto_region 1 with (fail);refine wL (fun w'=>w'.heap[q]? = some (.cells #[s,n,.map (some mb),.slice (some ⟨gb,0,none⟩) 26 26,v] 105 (0,0))) 99 ?_;replace HL:=hI HL.o.drew;have HKd:=hI (HK.o.trans (Kp.of_below (bdr (Below.refl _ _))) (fun _ _ h=>h));replace HK:=HKd;clear HKd;generalize hwd:wd.drew=wd at *;clear hwd;refine tg 0 14 (.pointer (some ⟨q,0,none⟩)) HL.o.blk ?_;refine tg 1 15 (.pointer (some ⟨q,0,none⟩)) HL.o.blk ?_;refine tg 2 16 (.pointer (some ⟨q,0,none⟩)) HL.o.blk ?_;refine tk 3 17 (.string s) ?_ HL.o.blk ?_
     · exact uS2
     refine tg 4 18 (.pointer (some ⟨q,0,none⟩)) HL.o.blk ?_;refine tg 5 19 (.pointer (some ⟨q,0,none⟩)) HL.o.blk ?_;refine tg 6 20 (.pointer (some ⟨q,1,none⟩)) HL.o.blk ?_;refine tk 7 21 (.int .i64 (n:Int)) ?_ HL.o.blk ?_
     · exact uZM
     refine tg 8 22 (.int .u8 (c:Int)) HL.o.blk ?_;try simp only[Act.put,pA,pB,pC]
     refine wone 9 fun K hK=>?_;go_simp;refine (HBL.o _).mono ?_;rintro e w2 ⟨rfl,hw⟩;subst hw;refine hK.o _ _ (fun _=>HL.o.blk) ?_;clear hK;refine tg 10 13 (.bool true) HL.o.blk ?_;try simp only[Act.put,pA,pB,pC]
     refine wD ?_ _;clear hix;obtain⟨l1,lf1⟩:=zz HL.o.blk 1;go_wp2_with fail;go_roundw
     case rel=>exact⟨n+1,f,HL.o.put (by omega) HLT.o,HK.o.set _ (Or.inl rfl),by have:=HF.o;omega,HE⟩
     case measure=>rw[HPN.o];exact Nat.lt_of_le_of_lt (Nat.le_of_eq (congrArg (fun x=>s.size-x) (HL.o.put (z:=(n:Int)+1) (j:=n+1) (by omega) HLT.o).posN)) (by have:=HLT.o;omega)
    rw[hbl] at he;simp only[Bool.false_eq_true,if_false] at he;have HBL:=hI (zua c);rw[hbl] at HBL;clear hbl;go_upto_region 1 with (fail);refine wL (fun w'=>w'.heap[q]? = some (.cells #[s,n,.map (some mb),.slice (some ⟨gb,0,none⟩) 26 26,v] 105 (0,0))) 99 ?_;replace HL:=hI HL.o.drew;have HKd:=hI (HK.o.trans (Kp.of_below (bdr (Below.refl _ _))) (fun _ _ h=>h));replace HK:=HKd;clear HKd;generalize hwd:wd.drew=wd at *;clear hwd;refine tg 0 14 (.pointer (some ⟨q,0,none⟩)) HL.o.blk ?_;refine tg 1 15 (.pointer (some ⟨q,0,none⟩)) HL.o.blk ?_;refine tg 2 16 (.pointer (some ⟨q,0,none⟩)) HL.o.blk ?_;refine tk 3 17 (.string s) ?_ HL.o.blk ?_
    · exact uS2
    refine tg 4 18 (.pointer (some ⟨q,0,none⟩)) HL.o.blk ?_;refine tg 5 19 (.pointer (some ⟨q,0,none⟩)) HL.o.blk ?_;refine tg 6 20 (.pointer (some ⟨q,1,none⟩)) HL.o.blk ?_;refine tk 7 21 (.int .i64 (n:Int)) ?_ HL.o.blk ?_
    · exact uZM
    refine tg 8 22 (.int .u8 (c:Int)) HL.o.blk ?_;try simp only[Act.put,pA,pB,pC]
    refine wone 9 fun K hK=>?_;go_simp;refine (HBL.o _).mono ?_;rintro e w2 ⟨rfl,hw⟩;subst hw;refine hK.o _ _ (fun _=>HL.o.blk) ?_;clear hK;refine tg 10 13 (.bool false) HL.o.blk ?_;try simp only[Act.put,pA,pB,pC]
    refine wD ?_ _;clear hix;have HTW:=hI (zKY s n hlt);cases hhas:zgp s n ⟨#[47,47]⟩
    case false =>
     rw[if_neg (by have h9:=HTW.o;rw[hhas,HCB.o] at h9;exact of_decide_eq_false h9.symm)] at he;replace HE:=hI he;clear he;have HHP:=hI (fun W=>Tryz.strings_HasPrefix (s.extract n s.size) ⟨#[47,47]⟩ W);rw[zxt,hhas] at HHP;clear hhas hlt;go_upto_region 3 with (fail);refine wL (fun w'=>w'.heap[q]? = some (.cells #[s,n,.map (some mb),.slice (some ⟨gb,0,none⟩) 26 26,v] 105 (0,0))) 99 ?_;replace HL:=hI HL.o.drew;have HKd:=hI (HK.o.trans (Kp.of_below (bdr (Below.refl _ _))) (fun _ _ h=>h));replace HK:=HKd;clear HKd;generalize hwd:wd.drew=wd at *;clear hwd;refine tg 0 32 (.pointer (some ⟨q,0,none⟩)) HL.o.blk ?_;refine tg 1 33 (.pointer (some ⟨q,0,none⟩)) HL.o.blk ?_;refine tg 2 34 (.pointer (some ⟨q,0,none⟩)) HL.o.blk ?_;refine tk 3 35 (.string s) ?_ HL.o.blk ?_
     · exact uS2
     refine tg 4 36 (.pointer (some ⟨q,0,none⟩)) HL.o.blk ?_;refine tg 5 37 (.pointer (some ⟨q,0,none⟩)) HL.o.blk ?_;refine tg 6 38 (.pointer (some ⟨q,1,none⟩)) HL.o.blk ?_;refine tk 7 39 (.int .i64 (n:Int)) ?_ HL.o.blk ?_
     · exact uZM
     refine tk 8 40 (.string (s.extract n s.size)) ?_ HL.o.blk ?_
     · exact uWC
     try simp only[Act.put,pA,pB,pC]
     refine wone 9 fun K hK=>?_;go_simp;refine (HHP.o _).mono ?_;rintro e w2 ⟨rfl,hw⟩;subst hw;refine hK.o _ _ (fun _=>HL.o.blk) ?_;clear hK;refine tg 10 31 (.bool false) HL.o.blk ?_;try simp only[Act.put,pA,pB,pC]
     refine wD ?_ _;go_wp2_with fail;go_end0;rw[←HPO.o,←HE.o];exact⟨rfl,HL.o,HK.o⟩
    have h47:c=47∧n+1<s.size∧bAt s (n+1)=47:=by have h9:=HTW.o;rw[hhas,HCB.o] at h9;exact of_decide_eq_true h9.symm
    rw[if_pos h47] at he;replace HE:=hI he;have HGT:=hI (zoC s n hlt (by rw[HCB.o,h47.1];decide));have HLL:=hI (zeQ s s.size n (Nat.le_of_lt hlt));have HLE:=hI (zDG s s.size n (Nat.le_of_lt hlt) (Nat.sub_le _ _));clear he h47;have HHP:=hI (fun W=>Tryz.strings_HasPrefix (s.extract n s.size) ⟨#[47,47]⟩ W);rw[zxt,hhas] at HHP;clear hhas hlt;go_upto_region 3 with (fail);refine wL (fun w'=>w'.heap[q]? = some (.cells #[s,n,.map (some mb),.slice (some ⟨gb,0,none⟩) 26 26,v] 105 (0,0))) 99 ?_;replace HL:=hI HL.o.drew;have HKd:=hI (HK.o.trans (Kp.of_below (bdr (Below.refl _ _))) (fun _ _ h=>h));replace HK:=HKd;clear HKd;generalize hwd:wd.drew=wd at *;clear hwd;refine tg 0 32 (.pointer (some ⟨q,0,none⟩)) HL.o.blk ?_;refine tg 1 33 (.pointer (some ⟨q,0,none⟩)) HL.o.blk ?_;refine tg 2 34 (.pointer (some ⟨q,0,none⟩)) HL.o.blk ?_;refine tk 3 35 (.string s) ?_ HL.o.blk ?_
    · exact uS2
    refine tg 4 36 (.pointer (some ⟨q,0,none⟩)) HL.o.blk ?_;refine tg 5 37 (.pointer (some ⟨q,0,none⟩)) HL.o.blk ?_;refine tg 6 38 (.pointer (some ⟨q,1,none⟩)) HL.o.blk ?_;refine tk 7 39 (.int .i64 (n:Int)) ?_ HL.o.blk ?_
    · exact uZM
    refine tk 8 40 (.string (s.extract n s.size)) ?_ HL.o.blk ?_
    · exact uWC
    try simp only[Act.put,pA,pB,pC]
    refine wone 9 fun K hK=>?_;go_simp;refine (HHP.o _).mono ?_;rintro e w2 ⟨rfl,hw⟩;subst hw;refine hK.o _ _ (fun _=>HL.o.blk) ?_;clear hK;refine tg 10 31 (.bool true) HL.o.blk ?_;try simp only[Act.put,pA,pB,pC]
    refine wD ?_ _;have HIB:=hI (fun W=>Tryz.strings_IndexByte (s.extract n s.size) 10 W);rw[zhi] at HIB;have HIG:=hI (Lib.indexByte_ge (s.data.toList.drop n) 10);rw[show ((10:Int).toNat.toUInt8)=10 from rfl] at HIB;generalize Lib.indexByte (s.data.toList.drop n) 10=z at *;generalize lxLine s s.size n=m at *;go_upto_region 4 with (fail);refine wL (fun w'=>w'.heap[q]? = some (.cells #[s,n,.map (some mb),.slice (some ⟨gb,0,none⟩) 26 26,v] 105 (0,0))) 99 ?_;replace HL:=hI HL.o.drew;have HKd:=hI (HK.o.trans (Kp.of_below (bdr (Below.refl _ _))) (fun _ _ h=>h));replace HK:=HKd;clear HKd;generalize hwd:wd.drew=wd at *;clear hwd;refine tg 0 42 (.pointer (some ⟨q,0,none⟩)) HL.o.blk ?_;refine tg 1 43 (.pointer (some ⟨q,0,none⟩)) HL.o.blk ?_;refine tg 2 44 (.pointer (some ⟨q,0,none⟩)) HL.o.blk ?_;refine tk 3 45 (.string s) ?_ HL.o.blk ?_
    · exact uS2
    refine tg 4 46 (.pointer (some ⟨q,0,none⟩)) HL.o.blk ?_;refine tg 5 47 (.pointer (some ⟨q,0,none⟩)) HL.o.blk ?_;refine tg 6 48 (.pointer (some ⟨q,1,none⟩)) HL.o.blk ?_;refine tk 7 49 (.int .i64 (n:Int)) ?_ HL.o.blk ?_
    · exact uZM
    refine tk 8 50 (.string (s.extract n s.size)) ?_ HL.o.blk ?_
    · exact uWC
    try simp only[Act.put,pA,pB,pC]
    refine wone 9 fun K hK=>?_;go_simp;refine (HIB.o _).mono ?_;rintro e w2 ⟨rfl,hw⟩;subst hw;refine hK.o _ _ (fun _=>HL.o.blk) ?_;clear hK;refine tg 10 2 (.int .i64 z) HL.o.blk ?_;try simp only[Act.put,pA,pB,pC]
    refine wD ?_ _;by_cases hz:z<0
    · have HM:Jd ((n:Int)+((s.size:Int)-(n:Int))=(m:Int)):=hI (by have h9:=HLE.o;rw[if_pos hz] at h9;omega);go_upto_region 6 with (fail);refine wL (fun w'=>w'.heap[q]? = some (.cells #[s,n,.map (some mb),.slice (some ⟨gb,0,none⟩) 26 26,v] 105 (0,0))) 99 ?_;replace HL:=hI HL.o.drew;have HKd:=hI (HK.o.trans (Kp.of_below (bdr (Below.refl _ _))) (fun _ _ h=>h));replace HK:=HKd;clear HKd;generalize hwd:wd.drew=wd at *;clear hwd;refine tg 0 54 (.pointer (some ⟨q,0,none⟩)) HL.o.blk ?_;refine tg 1 55 (.pointer (some ⟨q,0,none⟩)) HL.o.blk ?_;refine tg 2 56 (.pointer (some ⟨q,0,none⟩)) HL.o.blk ?_;refine tk 3 57 (.string s) ?_ HL.o.blk ?_
      · exact uS2
      refine tg 4 58 (.int .i64 (s.size:Int)) HL.o.blk ?_;refine tg 5 59 (.pointer (some ⟨q,0,none⟩)) HL.o.blk ?_;refine tg 6 60 (.pointer (some ⟨q,0,none⟩)) HL.o.blk ?_;refine tg 7 61 (.pointer (some ⟨q,1,none⟩)) HL.o.blk ?_;refine tk 8 62 (.int .i64 (n:Int)) ?_ HL.o.blk ?_
      · exact uZM
      refine tk 9 63 (.int .i64 ((s.size:Int)-(n:Int))) ?_ HL.o.blk ?_
      · intro wz hSz;have hwr:IntKind.i64.wrap ((s.size:Int)-(n:Int))=(s.size:Int)-(n:Int):=by have:=HS.o;have:=HLT.o;rw[zF];unfold wrap64;omega
        go_simp
      refine tg 10 2 (.int .i64 ((s.size:Int)-(n:Int))) HL.o.blk ?_;try simp only[Act.put,pA,pB,pC]
      refine wD ?_ _;clear hz;obtain⟨l1,lf1⟩:=zz HL.o.blk 1;go_wp2_with fail;go_roundw
      case rel=>exact⟨m,f,HL.o.put HM.o HLL.o,HK.o.set _ (Or.inl rfl),by have:=HF.o;have:=HGT.o;omega,HE⟩
      case measure=>rw[HPN.o];exact Nat.lt_of_le_of_lt (Nat.le_of_eq (congrArg (fun x=>s.size-x) (HL.o.put (z:=(n:Int)+((s.size:Int)-(n:Int))) (j:=m) HM.o HLL.o).posN)) (by have:=HLT.o;have:=HGT.o;omega)
    have HM:Jd ((n:Int)+z=(m:Int)):=hI (by have h9:=HLE.o;rw[if_neg hz] at h9;omega);have hz0:(0:Int)≤z:=by omega
    have hz1:(n:Int)+z≤(s.size:Int):=by have:=HM.o;have:=HLL.o;omega
    obtain⟨l1,lf1⟩:=zz HL.o.blk 1;go_wp2_with fail;go_roundw
    case rel=>exact⟨m,f,HL.o.put HM.o HLL.o,HK.o.set _ (Or.inl rfl),by have:=HF.o;have:=HGT.o;omega,HE⟩
    case measure=>rw[HPN.o];exact Nat.lt_of_le_of_lt (Nat.le_of_eq (congrArg (fun x=>s.size-x) (HL.o.put (z:=(n:Int)+z) (j:=m) HM.o HLL.o).posN)) (by have:=HLT.o;have:=HGT.o;omega)
  obtain rfl:n=s.size:=by omega
  have k9:¬((s.size:Int)<(s.size:Int)):=by omega
  have he:zKs s f s.size=s.size:=by cases f <;> simp[zKs]
  have HE2:Jd (s.size=T):=hI (he.symm.trans HE.o);clear HE he hlt;go_upto_region 0 with (fail);refine wL (fun w'=>w'.heap[q]? = some (.cells #[s,s.size,.map (some mb),.slice (some ⟨gb,0,none⟩) 26 26,v] 105 (0,0))) 99 ?_;replace HL:=hI HL.o.drew;have HKd:=hI (HK.o.trans (Kp.of_below (bdr (Below.refl _ _))) (fun _ _ h=>h));replace HK:=HKd;clear HKd;generalize hwd:wr.drew=wd at *;clear hwd;refine tg 0 3 (.pointer (some ⟨q,0,none⟩)) HL.o.blk ?_;refine tg 1 4 (.pointer (some ⟨q,0,none⟩)) HL.o.blk ?_;refine tg 2 5 (.pointer (some ⟨q,1,none⟩)) HL.o.blk ?_;refine tk 3 6 (.int .i64 (s.size:Int)) ?_ HL.o.blk ?_
  · exact uZM
  refine tg 4 7 (.pointer (some ⟨q,0,none⟩)) HL.o.blk ?_;refine tg 5 8 (.pointer (some ⟨q,0,none⟩)) HL.o.blk ?_;refine tg 6 9 (.pointer (some ⟨q,0,none⟩)) HL.o.blk ?_;refine tk 7 10 (.string s) ?_ HL.o.blk ?_
  · exact uS2
  refine tg 8 11 (.int .i64 (s.size:Int)) HL.o.blk ?_;refine tg 9 12 (.bool false) HL.o.blk ?_;try simp only[Act.put,pA,pB,pC]
  refine wD ?_ _;go_wp2_with fail;go_end0;rw[←HPO.o,←HE2.o];exact⟨rfl,HL.o,HK.o⟩
end
section
variable {p:Prop}
theorem uMe (h:p:=by
 have hk0:(0:Int)≤(k:Int):=by omega
 have hn0:(0:Int)≤(n:Int):=by omega
 have hn1:(n:Int)≤4294967295:=by omega
 by_cases hlt:k<s.size
 · have k1:(k:Int)<(s.size:Int):=by omega
   have k2:(k:Int)<1000000:=by omega
   have hix:=fun W=>zi7 s k (k:Int) rfl hlt W;obtain⟨c,hc⟩:∃c,((s.data.toList.getD k 0).toNat)=c:=⟨_,rfl⟩
   have hcb:bAt s k=c:=hc;rw[hc] at hix;have hcl:c<256:=by rw[←hcb];exact z2K _ _
   have he:=HR.o;rw[show s.size-k=(s.size-(k+1))+1 by omega] at he;unfold zA3 at he;rw[hcb] at he;have HV:=hI (zpK c 10 hcl (by decide));have HLT:=hI hlt;clear hc hcb hcl hlt hk hn;obtain⟨ov,hov⟩:∃ov,zyk c 10=ov:=⟨_,rfl⟩
   rw[hov] at he HV;have HVL:=hI (fun v (h:ov=some v)=>z2t (hov.trans h));clear hov;cases ov
   case none=>replace HR:=hI he;clear he;simp only at HV;go_wp2_with fail;refine (HV.o _).mono ?_;rintro e w2 ⟨rfl,hw⟩;subst hw;go_wp2_with fail;rw[←HPO.o,←HR.o];exact⟨rfl,rfl⟩
   rename_i v;simp only at HV he;have hv1:v≤15:=HVL.o v rfl;have hvi:(v:Int)≤15:=by omega
   have hv0:(0:Int)≤(v:Int):=by omega
   have HVV:=hI hv1;clear HVL hv1;by_cases hb:4294967295<10*n+v
   · have kb:(4294967295:Int)<10*(n:Int)+(v:Int):=by omega
     rw[if_pos hb] at he;replace HR:=hI he;clear he hb;go_wp2_with fail;refine (HV.o _).mono ?_;rintro e w2 ⟨rfl,hw⟩;subst hw;go_wp2_with fail;rw[←HPO.o,←HR.o];exact⟨rfl,rfl⟩
   have kb:10*(n:Int)+(v:Int)≤4294967295:=by omega
   rw[if_neg hb] at he;replace HR:=hI he;have HB:=hI hb;clear he hb;go_wp2_with fail;refine (HV.o _).mono ?_;rintro e w2 ⟨rfl,hw⟩;subst hw;go_upto_region 17 with (fail);obtain⟨m,hm⟩:∃m:Nat,10*n+v=m:=⟨_,rfl⟩
   rw[show 10*(n:Int)+(v:Int)=(m:Int) by omega];rw[hm] at HB HR;have kd:decide ((4294967295:Int)<(m:Int))=false:=decide_eq_false (by have:=HB.o;omega);clear kb hn1 hn0 hm hvi hv0;go_wp2_with fail;go_roundw
   case rel=>exact⟨k+1,m,rfl,by go_num,by trivial,HLT.o,by have:=HB.o;omega,HR⟩
   case measure=>simp[intOf];have:=HLT.o;omega
 obtain rfl:k=s.size:=by omega
 have k9:¬((s.size:Int)<(s.size:Int)):=by omega
 have he:=HR.o;rw[Nat.sub_self] at he;replace HR:Jd (some n=R):=hI he;clear he hlt hk hn;go_wp2_with fail;rw[←HPO.o,←HR.o];exact⟨rfl,rfl⟩):p:=h
theorem uPE (h:p:=by
 go_wp2_with fail;refine (HV.o _).mono ?_;rintro e w2 ⟨rfl,hw⟩;subst hw;go_wp2_with fail;rw[←HPO.o,←HR.o];exact⟨rfl,rfl⟩):p:=h
theorem uB9 (h:p:=by
 go_enter Tryz.func59,Tryz.ntmps59;go_wp2_with fail;refine (HC.o _).mono ?_;rintro e w2 ⟨rfl,hw⟩;have hw:=hw.symm;subst hw;go_wp2_with fail;rw[←HPO.o,←HR.o];exact⟨rfl,rfl⟩):p:=h
theorem uMK (h:p:=by
 go_enter Tryz.func59,Tryz.ntmps59;go_wp2_with fail;refine (HC.o _).mono ?_;rintro e w2 ⟨rfl,hw⟩;have hw:=hw.symm;subst hw;go_wp2_with fail;go_loopw [7,8,9,10,34] (fun vn _ _ _ vi wr=>∃(k n:Nat),vn=.int .i64 (n:Int)∧vi=.int .i64 (k:Int)∧wr=W∧k≤s.size∧n≤4294967295∧Jd (zA3 s 10 (s.size-k) k n=R)) (fun _ _ _ _ vi _=>s.size-(intOf vi).toNat)
 case atStart=>exact⟨0,0,rfl,rfl,rfl,Nat.zero_le _,Nat.zero_le _,HR⟩
 case round =>
  clear HR;obtain⟨k,n,rfl,rfl,hw,hk,hn,HR⟩:=hrel;subst hw;have HK:=hI hk;have HN:=hI hn;have hlen:(s.size:Int)<1000000:=by have:=HTS.o;omega
  exact uMe):p:=h
end
theorem z2t {c base v:Nat} (h:zyk c base=some v):v≤15:=by
 unfold zyk zDE at h;split at h
 · rename_i h1;simp at h1;cases h;omega
 split at h
 · rename_i h1;cases h;omega
 cases h
theorem zQw (s x:ByteArray):Lib.hasPrefix s.data.toList x.data.toList=zgp s 0 x:=by
 rw[←zxt,zhi,List.drop_zero]
theorem zFT {s x:ByteArray} {i:Nat} (h:zgp s i x=true) (hi:i≤s.size):i+x.size≤s.size:=by
 have h1:=of_decide_eq_true h;have h2:(s.extract i (i+x.size)).data.toList.length=x.data.toList.length:=by rw[h1]
 rw[zsZ,List.length_take,List.length_drop] at h2;have h3:x.data.toList.length=x.size:=rfl;have h4:s.data.toList.length=s.size:=rfl;omega
theorem zbL {t:ByteArray} (h:t.size=0):t=⟨#[]⟩:=by
 refine zeS ?_;have:t.data.toList.length=0:=h;exact List.length_eq_zero_iff.1 this
def z6H (r:Option Nat):Value:=match r with
 | some n=>.tuple #[n,true]
 | none=>.tuple #[.int .i64 0,false]
theorem zo9 (s:ByteArray) (hp:0<s.size) (hs:s.size≤65536) (W:World) :
  Calls Tryz.prog 59 #[s] W fun e w'=>e=.returned (z6H (z0J s))∧w'=W:=by
 have HS:=hI hs;have HP0:=hI hp;obtain⟨R,hR⟩:∃R,z0J s=R:=⟨_,rfl⟩
 rw[hR];generalize hPO:(fun (e:Ending) (w':World)=>e=.returned (z6H R)∧w'=W)=PO;have HPO:=hI hPO;clear hPO;unfold z0J at hR;have HC:=hI (fun W=>Tryz.strings_CutPrefix s ⟨#[48,120]⟩ W);rw[zQw] at HC;unfold Lib.trimPrefix at HC;rw[zQw] at HC;cases hh:zgp s 0 ⟨#[48,120]⟩
 case true =>
  rw[hh] at HC hR;simp only[if_true] at HC hR;obtain⟨t,ht⟩:∃t:ByteArray,s.extract 2 s.size=t:=⟨_,rfl⟩
  have htl:(⟨(s.data.toList.drop 2).toArray⟩:ByteArray)=t:=by rw[←ht];refine zeS ?_;rw[zhi]
  have h2:2≤s.size:=by have h9:=zFT hh (Nat.zero_le _);rw[show (⟨#[48,120]⟩:ByteArray).size=2 from rfl] at h9;omega
  have hts:t.size=s.size-2:=by rw[←ht];exact zR3 s 2 s.size h2 (Nat.le_refl _)
  rw[show (⟨#[48,120]⟩:ByteArray).data.toList.length=2 from rfl,htl] at HC;rw[ht] at hR;rw[←hts] at hR;have HTS:=hI (show t.size≤65536 by omega);have hq:(s.size=2∨10<s.size)=(t.size=0∨8<t.size):=propext (by omega);simp only[hq] at hR;clear hh ht htl h2 hts hq hs hp;by_cases ht0:t.size=0
  · rw[if_pos (Or.inl ht0)] at hR;have HR:=hI hR;obtain rfl:=zbL ht0;clear hR ht0;exact uB9
  have q0:(t.toList==[])=false:=zj2 ⟨#[]⟩ _ rfl (fun e=>ht0 (by rw[e];rfl));by_cases ht8:8<t.size
  · rw[if_pos (Or.inr ht8)] at hR;have k8:(8:Int)<(t.size:Int):=by omega
    have HR:=hI hR;clear hR ht0 ht8;exact uB9
  rw[if_neg (fun h=>h.elim ht0 ht8)] at hR;have k8:¬(8:Int)<(t.size:Int):=by omega
  have HR:Jd (zA3 t 16 (t.size-0) 0 0=R):=hI hR;clear hR ht0 ht8;go_enter Tryz.func59,Tryz.ntmps59;go_wp2_with fail;refine (HC.o _).mono ?_;rintro e w2 ⟨rfl,hw⟩;have hw:=hw.symm;subst hw;go_wp2_with fail;go_loopw [7,8,9,10,34] (fun vn _ _ _ vi wr=>∃(k n:Nat),vn=.int .i64 (n:Int)∧vi=.int .i64 (k:Int)∧wr=W∧k≤t.size∧n≤4294967295∧Jd (zA3 t 16 (t.size-k) k n=R)) (fun _ _ _ _ vi _=>t.size-(intOf vi).toNat)
  case atStart=>exact⟨0,0,rfl,rfl,rfl,Nat.zero_le _,Nat.zero_le _,HR⟩
  case round =>
   clear HR;obtain⟨k,n,rfl,rfl,hw,hk,hn,HR⟩:=hrel;subst hw;have HK:=hI hk;have HN:=hI hn;have hlen:(t.size:Int)<1000000:=by have:=HTS.o;omega
   have hk0:(0:Int)≤(k:Int):=by omega
   have hn0:(0:Int)≤(n:Int):=by omega
   have hn1:(n:Int)≤4294967295:=by omega
   by_cases hlt:k<t.size
   · have k1:(k:Int)<(t.size:Int):=by omega
     have k2:(k:Int)<1000000:=by omega
     have hix:=fun W=>zi7 t k (k:Int) rfl hlt W;obtain⟨c,hc⟩:∃c,((t.data.toList.getD k 0).toNat)=c:=⟨_,rfl⟩
     have hcb:bAt t k=c:=hc;rw[hc] at hix;have hcl:c<256:=by rw[←hcb];exact z2K _ _
     have he:=HR.o;rw[show t.size-k=(t.size-(k+1))+1 by omega] at he;unfold zA3 at he;rw[hcb] at he;have HV:=hI (zpK c 16 hcl (by decide));have HLT:=hI hlt;clear hc hcb hcl hlt hk hn;obtain⟨ov,hov⟩:∃ov,zyk c 16=ov:=⟨_,rfl⟩
     rw[hov] at he HV;have HVL:=hI (fun v (h:ov=some v)=>z2t (hov.trans h));clear hov;cases ov
     case none=>replace HR:=hI he;clear he;simp only at HV;exact uPE
     rename_i v;simp only at HV he;have hv1:v≤15:=HVL.o v rfl;have hvi:(v:Int)≤15:=by omega
     have hv0:(0:Int)≤(v:Int):=by omega
     have HVV:=hI hv1;clear HVL hv1;by_cases hb:4294967295<16*n+v
     · have kb:(4294967295:Int)<16*(n:Int)+(v:Int):=by omega
       rw[if_pos hb] at he;replace HR:=hI he;clear he hb;exact uPE
     have kb:16*(n:Int)+(v:Int)≤4294967295:=by omega
     rw[if_neg hb] at he;replace HR:=hI he;have HB:=hI hb;clear he hb;go_wp2_with fail;refine (HV.o _).mono ?_;rintro e w2 ⟨rfl,hw⟩;subst hw;go_upto_region 17 with (fail);obtain⟨m,hm⟩:∃m:Nat,16*n+v=m:=⟨_,rfl⟩
     rw[show 16*(n:Int)+(v:Int)=(m:Int) by omega];rw[hm] at HB HR;have kd:decide ((4294967295:Int)<(m:Int))=false:=decide_eq_false (by have:=HB.o;omega);clear kb hn1 hn0 hm hvi hv0;go_wp2_with fail;go_roundw
     case rel=>exact⟨k+1,m,rfl,by go_num,by trivial,HLT.o,by have:=HB.o;omega,HR⟩
     case measure=>simp[intOf];have:=HLT.o;omega
   obtain rfl:k=t.size:=by omega
   have k9:¬((t.size:Int)<(t.size:Int)):=by omega
   have he:=HR.o;rw[Nat.sub_self] at he;replace HR:Jd (some n=R):=hI he;clear he hlt hk hn;go_wp2_with fail;rw[←HPO.o,←HR.o];exact⟨rfl,rfl⟩
 rw[hh] at HC hR;simp only[Bool.false_eq_true,if_false] at HC hR;have hss:(⟨s.data.toList.toArray⟩:ByteArray)=s:=by cases s;simp
 rw[hss] at HC;have HTS:=hI hs;have hix:=fun W=>zi7 s 0 0 rfl hp W;obtain⟨c,hc⟩:∃c,((s.data.toList.getD 0 0).toNat)=c:=⟨_,rfl⟩
 have hcb:bAt s 0=c:=hc;rw[hc] at hix;rw[hcb] at hR;clear hc hcb hss hh hs hp;by_cases h48:c=48
 · subst h48;by_cases hz:s=⟨#[48]⟩
   · rw[if_neg (fun h=>h.2 hz)] at hR;have HR:Jd (zA3 s 10 (s.size-0) 0 0=R):=hI hR;have qz0:(s.toList==[48])=true:=by rw[hz];rw[ByteArray.toList_eq];rfl
     have qz:(s.toList != [48])=false:=by rw[bne,qz0];rfl
     clear hR hz;exact uMK
   rw[if_pos ⟨rfl,hz⟩] at hR;have HR:=hI hR;have qz0:(s.toList==[48])=false:=zj2 ⟨#[48]⟩ _ rfl hz;have qz:(s.toList != [48])=true:=by rw[bne,qz0];rfl
   clear hR hz;exact uB9
 rw[if_neg (fun h=>h48 h.1)] at hR;have q48:((c:Int)==48)=false:=by rw[beq_eq_false_iff_ne];omega
 have HR:Jd (zA3 s 10 (s.size-0) 0 0=R):=hI hR;clear hR h48;exact uMK
end Go.Proofs.YtfibdoehmndinaaGreatDoor
