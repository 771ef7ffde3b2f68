/- Parts of a proof. No condition but those that each theorem names. -/
import Derived.Test.YtfibdoehmndinaaGreatDoorTfG2e24
import Derived.Test.YtfibdoehmndinaaGreatDoorTfG0e25
namespace Go.Proofs.YtfibdoehmndinaaGreatDoor
open Go.RowKit Go.Shelf
set_option linter.unusedVariables false
set_option maxRecDepth 100000
set_option maxHeartbeats 1000000
section
variable {W W':World} {bs:List (Nat×TypeId×List Value)} {row:Option Nat} {ts:List zOU} {w w':World}
attribute [local go_sem] Oper.semAt_some
section
variable {p:Prop}
theorem uXH (h:p:=by
 intro wz hSz;obtain⟨hBxs,hXAs,hXBs⟩:=hSz;have cBx3:=(zz hBxs 3).1;have cXA0:=(zz hXAs 0).1;have cBx5:=(zz hBxs 5).1;have cXB0:=(zz hXBs 0).1;refine⟨zQ rfl ?_,zQ rfl ?_,zQ rfl ?_,zQ rfl ?_,zQ rfl ?_,zQ rfl ?_,zQ rfl ?_,zQ rfl ?_,zQ rfl ?_,zQ rfl ?_,zQ rfl ?_,zQ rfl ?_,zQ rfl ?_,zQ rfl ?_,zQ rfl ?_,zQ rfl ?_,zQ rfl ?_,trivial⟩;all_goals (simp only[Act.put,pA,pB,pC,Option.getD];go_simp)):p:=h
theorem uT0 (h:p:=by
 try simp only[zy,zW,Act.put,pA,pB,pC,Option.getD]
 refine wD ?_ _;exact⟨rfl,HF.o,HG.o⟩):p:=h
end
theorem Frm.gr (h:Frm noS W w bs ts) (hg:w.grownBy w' row) (hr:∀r,row=some r→W.heap.size≤r∧∃o:Obj,w.heap[r]? = some o∧o.isCells=false):Frm noS W w' bs ts:=by
 refine⟨⟨hg.os.trans h.kp.os,hg.tape.trans h.kp.tape,hg.output.trans h.kp.output,Nat.le_trans h.kp.siz hg.size,fun q x hq hx=>?_⟩,h.old,h.sub,fun b hb=>?_,h.dis,fun T hT=>T.mono (h.tr T hT) hg.size fun a u _ hc=>?_⟩
 · have h1:=h.kp.blk q x hq hx;rw[hg.block q (zh h1) (fun e=>by have:=(hr q e.symm).1;have:=zh hx;omega)];exact h1
 · have h1:=h.blk b hb;rw[hg.block _ (zh h1) (fun e=>by obtain⟨_,o,ho,hc⟩:=hr _ e.symm;rw[h1] at ho;cases ho;cases hc)]
   exact h1
 obtain⟨h1,h2,h3⟩:=z17 hc;rw[zrQ h1 h2];exact cell_kept h3 hg (fun r e=>(hr r e).2)
theorem RowF.gr {T:Type} {E:Enc T} {hE:zOH E} {t:TypeId} {v:Value} {l:List T} (h:RowF hE noS W w t v l bs ts) (hg:w.grownBy w' row) (hr:∀r,row=some r→W.heap.size≤r∧∃o:Obj,w.heap[r]? = some o∧o.isCells=false):RowF hE noS W w' t v l bs ts:=by
 rcases h with⟨h1,h2,h⟩ | ⟨g,cap,cells,cs,h1,h2,h3,h4,h⟩
 · exact Or.inl ⟨h1,h2,h.gr hg hr⟩
 exact Or.inr ⟨g,cap,cells,cs,h1,h2,h3,h4,h.gr hg hr⟩
theorem zGJ {B:Nat} (h:Kp noS W W'):KeepsFrom B W W':=⟨h.siz,fun k o _ hk _=>h.blk k o (fun h=>h.elim) hk⟩
theorem zPo {n₀ Bo:Nat} (h:Kp noS W W') (hn:n₀≤W.heap.size):KpB n₀ Bo W W':=⟨(kb h).mono hn,fun v hv=>zWH h (fun h=>h.elim) hv⟩
theorem zwa:∀(l:List TFd) (i o:Int),i≤65537→i≤(zH i o l).2.1
 | [],i,o,_=>Int.le_refl _
 | f::l,i,o,h=>by
  have hp:=zPF f.ty
  unfold zH
  split
  · exact zwa l i _ h
  · have:=zwa l (min (i+zZ f.ty) 65537) o (by omega)
    show i≤(zH (min (i+zZ f.ty) 65537) o l).2.1
    omega
theorem zSL:∀(l:List TFd) (i o:Int),(zH i o l).2.1≤65536→(zH i o l).2.2≤65536→0≤i→0≤o→i≤65537→o≤65537→∀f∈(zH i o l).1,0≤f.off∧f.off+zZ f.ty≤(if f.out=true then (zH i o l).2.2 else (zH i o l).2.1)∧f.size=zZ f.ty
 | [],i,o,_,_,_,_,_,_,f,hf=>by cases hf
 | g::l,i,o,h1,h2,h3,h4,h5,h6,f,hf=>by
  have hp:=zPF g.ty
  have a1:=zwa l (min (i+zZ g.ty) 65537) o (by omega)
  have a2:=zyd l i (min (o+zZ g.ty) 65537) (by omega)
  unfold zH at hf h1 h2 ⊢
  by_cases ho:g.out=true
  · rw[if_pos ho] at hf h1 h2
    rw[if_pos ho]
    rcases List.mem_cons.1 hf with rfl | hf
    · refine⟨h4,?_,rfl⟩
      simp only at h2 ⊢
      rw[if_pos ho];omega
    exact zSL l i _ h1 h2 h3 (by omega) h5 (by omega) f hf
  · rw[if_neg ho] at hf h1 h2
    rw[if_neg ho]
    rcases List.mem_cons.1 hf with rfl | hf
    · refine⟨h3,?_,rfl⟩
      simp only at h1 ⊢
      rw[if_neg ho];omega
    exact zSL l _ o h1 h2 (by omega) h4 (by omega) h6 f hf
theorem zeL.at_ {l:List TFd} {i o:Int} (h:zeL l i o) (f:TFd) (hf:f∈l):0≤f.off∧f.off+zZ f.ty≤(if f.out=true then o else i)∧f.size=zZ f.ty∧0≤z0s f.ty*zcI f.ty∧z0s f.ty*zcI f.ty≤zZ f.ty∧zZ f.ty≤65540:=by
 have hl:=h.laid;have h1:=zSL l 0 0 (by rw[hl];exact h.most.1) (by rw[hl];exact h.most.2) (by omega) (by omega) (by omega) (by omega) f (by rw[hl];exact hf);rw[hl] at h1;simp only at h1;have h2:=(h.kind f hf).2.2.2;have h3:z0s f.ty=max f.ty.len 1:=rfl;have h4:zcI f.ty=1∨zcI f.ty=4:=by unfold zcI;split;exact Or.inl rfl;exact Or.inr rfl
 have h5:zZ f.ty=(z0s f.ty*zcI f.ty+3) / 4*4:=rfl;rcases h4 with e | e
 all_goals
  rw[e] at h5 ⊢
  exact⟨h1.1,h1.2.1,h1.2.2,by omega,by omega,by omega⟩
theorem zhC {a b:ByteArray} {m n:Nat} (h:a.extract m n=b.extract m n) (ha:n≤a.size) (hb:n≤b.size) (i:Nat) (hi:m+i<n):bAt a (m+i)=bAt b (m+i):=by
 have h1:(a.extract m n).data.toList[i]? = (b.extract m n).data.toList[i]? := by rw[h]
 simp only[ByteArray.data_extract,Array.toList_extract,List.extract_eq_take_drop] at h1;rw[List.getElem?_take_of_lt (by omega),List.getElem?_take_of_lt (by omega),List.getElem?_drop,List.getElem?_drop] at h1;unfold bAt;rw[List.getD_eq_getElem?_getD,List.getD_eq_getElem?_getD,h1]
theorem z0u (l:List TFd) (i o:Int) (A:Option Addr) (c:Nat) (a b:ByteArray) (w:World) (h:zeL l i o) (hx:zj zru w w.heap.size (.slice A l.length c) l) :
  Calls Tryz.prog 6 #[.slice A l.length c,a,b] w (fun (e:Ending) (w':World)=>(∃r:Bool,e=.returned (.bool r)∧(r=true→(a.size:Int)=i∧(b.size:Int)=i∧zsb l a b))∧Kp noS w w'):=by
 have HXX:=hI hx;have HH:=hI h;have HF:=hI ((((Frm.start (S:=noS) w (fun _ h=>h.elim)).alloc 9 [a]).allocN (w.heap.size+1) (by simp) 9 [b]).allocN (w.heap.size+1+1) (by simp) 4 [false]);have hsz:(((w.alloc (.cells #[a] 9)).alloc (.cells #[b] 9)).alloc (.cells #[false] 4)).heap.size=w.heap.size+1+1+1:=by simp
 generalize hPO:(fun (e:Ending) (w':World)=>(∃r:Bool,e=.returned (.bool r)∧(r=true→(a.size:Int)=i∧(b.size:Int)=i∧zsb l a b))∧Kp noS w w')=PO;have HPO:=hI hPO;clear hx h hPO;refine (callsIn_wide (n:=9)).1 ?_;refine callsIn_of_wp_marks Tryz.func6 rfl trivial ?_ rfl;simp only[Tryz.ntmps6,List.size_toArray,List.length_cons,List.length_nil,Nat.reduceAdd,Nat.reduceSub,Array.replicate_succ,Array.replicate_zero,List.push_toArray,List.append_toArray,List.nil_append,List.cons_append];gi_wp2_with fail;generalize ((w.alloc _).alloc _).alloc _=v at *;obtain⟨XC,hXC⟩:∃X,w.heap.size+1+1=X:=⟨_,rfl⟩
 obtain⟨XB,hXB⟩:∃X,w.heap.size+1=X:=⟨_,rfl⟩
 obtain⟨XA,hXA⟩:∃X,w.heap.size=X:=⟨_,rfl⟩
 rw[hXC,hXB,hXA] at HF ⊢;clear hXA hXB hXC hsz;refine⟨trivial,(callsIn_wide.2 (z3S l i o A c v HH.o (HXX.o.keep HF.o.kp.siz (fun a ha=>(kb HF.o.kp).cell ha)))).mono ?_⟩;rintro e v ⟨rfl,hk⟩;replace HF:=hI (HF.o.call hk);clear hk;have a0:=(zz (HF.o.at_ 2 rfl) 0).1;have b0:=(zz (HF.o.at_ 1 rfl) 0).1;by_cases h1:(a.size:Int)=i∧(b.size:Int)=i
 case neg =>
  have c0:=(zz (HF.o.at_ 0 rfl) 0).1;have cf:=(zz (HF.o.at_ 0 rfl) 0).2;gi_wp2_with fail
  all_goals
   replace HF:=hI (HF.o.set 0 rfl 0 (.bool false))
   have x0:=(zz (HF.o.at_ 0 rfl) 0).1
   refine⟨.bool false,by simp[results,Tryz.f6,go_sem,x0],?_⟩
   rw[←HPO.o]
   exact⟨⟨false,rfl,fun h=>absurd h (by simp)⟩,HF.o.kp⟩
 obtain⟨h1,h2⟩:=h1;have q1:((a.size:Int) != i)=false:=by rw[h1];simp
 have q2:((b.size:Int) != i)=false:=by rw[h2];simp
 gi_wp2_with fail;refine⟨trivial,(za2 Fence.wide 8 trivial rfl A l.length c false v).mono ?_⟩;rintro e v1 ⟨rfl,hw3⟩;clear a0 b0 q1 q2;replace hw3:=hw3.symm;replace HF:=hI ((HF.o.alloc 30 [.slice A l.length c]).allocN (v.heap.size+1) (by simp) 4 [false]);have hs3:v1.heap.size=v.heap.size+1+1:=by rw[←hw3];simp
 rw[hw3] at HF;clear hw3;generalize v.heap.size=XL at HF hs3 ⊢;have HS3:=hI hs3;clear hs3;gi_wp2_with fail;have hcl:=(zz (HF.o.at_ 1 rfl) 0).1;have hco:=(zz (HF.o.at_ 0 rfl) 0).1
 refine wpIn_rangeFunc_ownH rfl (by omega) (gf := 45) (lb:=#[.pointer (some ⟨XL,0,none⟩),.pointer (some ⟨XL+1,0,none⟩)]) rfl trivial (enters_of Tryz.func45 (by kernel_rfl) rfl)
  (zIK Fence.wide 8 trivial rfl (by omega) XL (XL+1) w.heap.size A l c false HH.o.len v1 (by have:=HS3.o;omega) (by have:=HS3.o;omega) HF.o.kp.siz hcl hco (HXX.o.keep (Nat.le_refl _) (fun a ha=>(kb HF.o.kp).cell ha)))
  (fun h h2=>h.trans h2) (KpB.put HF.o.kp.siz) (Below.refl _ _) (fun _=>rfl)
  (fun pre W=>(∀x∈pre,x.1.1.ty.label=0→a.extract x.1.1.off.toNat (x.1.1.off+z0s x.1.1.ty*zcI x.1.1.ty).toNat=b.extract x.1.1.off.toNat (x.1.1.off+z0s x.1.1.ty*zcI x.1.1.ty).toNat)∧Frm noS w W [(XL+1, 4,[false]),(XL, 30,[.slice A l.length c]),(XC, 4,[false]),(XB, 9,[b]),(XA, 9,[a])] [])
  (fun cd pre W=>cd=.ret∧Frm noS w W [(XL+1, 4,[false]),(XL, 30,[.slice A l.length c]),(XC, 4,[false]),(XB, 9,[b]),(XA, 9,[a])] [])
  (fun s A B row hs hg hr=>⟨hs.1,hs.2.gr hg (fun r e=>⟨Nat.le_trans HF.o.kp.siz (hr r e).1,(hr r e).2⟩)⟩)
  (fun c s A B row hs hg hr=>⟨hs.1,hs.2.gr hg (fun r e=>⟨Nat.le_trans HF.o.kp.siz (hr r e).1,(hr r e).2⟩)⟩)
  ⟨by simp,HF.o⟩
  (fun x a' W=>∃Bx,Frm noS w W ((Bx, 43,[x.1.1.name,x.1.1.ty.elem,x.1.1.ty.len,x.1.1.ty.label,x.1.1.out,x.1.1.off,x.1.1.size])::[(XL+1, 4,[false]),(XL, 30,[.slice A l.length c]),(XC, 4,[false]),(XB, 9,[b]),(XA, 9,[a])]) []∧a'={ tmps:=List.toArray (.slice A l.length c :: .string a :: .string b::undef :: .pointer (some ⟨XA,0,none⟩) :: .pointer (some ⟨XB,0,none⟩) :: .pointer (some ⟨XC,0,none⟩) :: .int .i64 i :: .int .i64 o :: .bool true::undef :: .pointer (some ⟨Bx,0,none⟩)::undef :: .tuple #[i,o,true] :: .slice A l.length c :: .tuple #[i,o,true] :: .int .i64 i :: .int .i64 o :: .bool true :: .bool true :: .bool false :: .bool false :: .string a :: .int .i64 i :: .int .i64 i :: .bool false :: .bool false :: .bool false :: .string b :: .int .i64 i :: .int .i64 i :: .bool false :: .bool false :: .slice A l.length c :: .func (.func 45) #[] #[.pointer (some ⟨XL,0,none⟩),.pointer (some ⟨XL+1,0,none⟩)] :: .int .i64 (x.1.2:Int) :: .agg #[x.1.1.name,x.1.1.ty.elem,x.1.1.ty.len,x.1.1.ty.label,x.1.1.out,x.1.1.off,x.1.1.size]::undef::undef::undef::undef::undef::undef::undef::undef::undef::undef::undef::undef::undef::undef::undef::undef::undef::undef::undef::undef::undef::undef::undef::undef::undef::undef::undef::[]),defers:=[] })
  (fun x a' _ X Y row hs hg hr=>by obtain⟨Bx,e1,e2⟩:=hs;exact⟨Bx,e1.gr hg (fun r e=>⟨Nat.le_trans HF.o.kp.siz (hr r e).1,(hr r e).2⟩),e2⟩)
  ?assign ?body ?done ?stop
 case assign=>rintro lp pre x W K ⟨hp,hF⟩ hK;dsimp only [znH];gi_wp2;exact hK _ _ ((KeepsOthers.alloc _ _).from _) (KpB.alloc hF.kp.siz _) ⟨hp,(hF.alloc 43 [x.1.1.name,x.1.1.ty.elem,x.1.1.ty.len,x.1.1.ty.label,x.1.1.out,x.1.1.off,x.1.1.size]).less (List.sublist_cons_self ..) (fun T hT=>hT)⟩ ⟨W.heap.size,hF.alloc 43 [x.1.1.name,x.1.1.ty.elem,x.1.1.ty.len,x.1.1.ty.label,x.1.1.out,x.1.1.off,x.1.1.size],rfl⟩
 case body =>
  rintro lp pre x a' v hl ⟨rr,hr⟩ ⟨hp,_⟩ ⟨Bx,hF,rfl⟩ hlt;obtain⟨⟨⟨fn,⟨te,tl,tb⟩,fo,ff,fs⟩,kk⟩,hm,ho⟩:=x;simp only at hF hm ho ⊢;obtain rfl:fo=false:=ho;clear HF;have HF:=hI hF;have HG:=hI (Frm.start (S:=noS) v (fun _ h=>h.elim));obtain⟨f1,f2,f3,f4,f5,f6⟩:=HH.o.at_ _ hm;have HP:=hI hp;have HZ:=hI hF.kp.siz;simp only[Bool.false_eq_true,if_false] at f1 f2 f3 f4 f5 f6;obtain⟨XM,hXM⟩:∃X,XL+1=X:=⟨_,rfl⟩
  rw[hXM] at HF ⊢;generalize hmm:z0s ⟨te,tl,tb⟩=mm at *;generalize hee:zcI ⟨te,tl,tb⟩=ee at *;generalize hpp:mm*ee=pp at *;have HMM:=hI hmm;have HEE:=hI hee;have HPP:=hI hpp;have hmost:=HH.o.most;have hpw:IntKind.i64.wrap pp=pp:=by rw[zF];unfold wrap64;omega
  have hfw:IntKind.i64.wrap (ff+pp)=ff+pp:=by rw[zF];unfold wrap64;omega
  have HFE:=hI (⟨f1,f2,f4,f5⟩:0≤ff∧ff+zZ ⟨te,tl,tb⟩≤i∧0≤pp∧pp≤zZ ⟨te,tl,tb⟩);clear hmm hee hp hl hr hlt hF hmost f3;gi_wp2_with fail;refine zaK (fun a' w'=>a'={ tmps:=List.toArray (.slice A l.length c :: .string a :: .string b::undef :: .pointer (some ⟨XA,0,none⟩) :: .pointer (some ⟨XB,0,none⟩) :: .pointer (some ⟨XC,0,none⟩) :: .int .i64 i :: .int .i64 o :: .bool true::undef :: .pointer (some ⟨Bx,0,none⟩) :: .int .i64 (ff+pp) :: .tuple #[i,o,true] :: .slice A l.length c :: .tuple #[i,o,true] :: .int .i64 i :: .int .i64 o :: .bool true :: .bool true :: .bool false :: .bool false :: .string a :: .int .i64 i :: .int .i64 i :: .bool false :: .bool false :: .bool false :: .string b :: .int .i64 i :: .int .i64 i :: .bool false :: .bool false :: .slice A l.length c :: .func (.func 45) #[] #[.pointer (some ⟨XL,0,none⟩),.pointer (some ⟨XM,0,none⟩)] :: .int .i64 (kk:Int) :: .agg #[fn,te,tl,tb,false,ff,fs] :: .pointer (some ⟨Bx,5,none⟩) :: .int .i64 ff :: .pointer (some ⟨Bx,1,none⟩) :: .agg #[te,tl,tb] :: .int .i64 mm :: .pointer (some ⟨Bx,1,none⟩) :: .agg #[te,tl,tb] :: .int .i64 ee :: .int .i64 pp :: .int .i64 (ff+pp)::undef::undef::undef::undef::undef::undef::undef::undef::undef::undef::undef::undef::undef::undef::undef::undef::undef::[]),defers:=[] }∧Frm noS w w' [(Bx, 43,[fn,te,tl,tb,false,ff,fs]),(XM, 4,[false]),(XL, 30,[.slice A l.length c]),(XC, 4,[false]),(XB, 9,[b]),(XA, 9,[a])] []∧Frm noS v w' [] []) (fun w'=>w'.heap[Bx]? = some (.cells #[fn,te,tl,tb,false,ff,fs] 43 (0,0))) 99 (by kernel_rfl) (by kernel_rfl) ?_ ?_
  · replace HG:=hI HG.o.drew;replace HF:=hI HF.o.drew;generalize v.drew=v1 at *;refine tks [(oS 0 37 (.pointer (some ⟨Bx,5,none⟩))),(oS 1 38 (.int .i64 ff)),(oS 2 39 (.pointer (some ⟨Bx,1,none⟩))),(oS 3 40 (.agg #[te,tl,tb])),(oS 5 42 (.pointer (some ⟨Bx,1,none⟩))),(oS 6 43 (.agg #[te,tl,tb]))] 5 ?_ (HF.o.at_ 0 rfl) ?_
    · intro wz hSz;have hBxs:=hSz;have cBx5:=(zz hBxs 5).1;have cBx1:=(zz hBxs 1).1;have cBx2:=(zz hBxs 2).1;have cBx3:=(zz hBxs 3).1;exact uDc
    try simp only[zy,zW,Act.put,pA,pB,pC,Option.getD]
    refine wone 4 fun Kz hK=>?_;go_simp;refine (zii te tl tb _).mono ?_;rintro e v1 ⟨rfl,hb⟩;replace HF:=hI (HF.o.below hb);replace HG:=hI (HG.o.below hb);clear hb;rw[HMM.o];refine hK.o _ _ (fun _=>HF.o.at_ 0 rfl) ?_;clear hK;try simp only[Act.put,pA,pB,pC]
    refine wone 7 fun Kz hK=>?_;go_simp;refine (z9g te tl tb _).mono ?_;rintro e v1 ⟨rfl,hb⟩;replace HF:=hI (HF.o.below hb);replace HG:=hI (HG.o.below hb);clear hb;rw[HEE.o];refine hK.o _ _ (fun _=>HF.o.at_ 0 rfl) ?_;clear hK;try simp only[Act.put,pA,pB,pC]
    refine tks [(oS 8 45 (.int .i64 pp)),(oS 9 46 (.int .i64 (ff+pp))),(oS 10 12 (.int .i64 (ff+pp)))] 0 ?_ (HF.o.at_ 0 rfl) ?_
    · intro wz hSz;have hBxs:=hSz;exact uIy
    exact uT0
  rintro a' v1 ⟨rfl,hF,hG⟩;replace HF:=hI hF;replace HG:=hI hG;clear hF hG;gi_wp2_with fail;clear hpw hfw;by_cases htb:tb=0
  case neg =>
   have qt:(tb==0)=false:=nB htb;have HTB:=hI htb;clear htb;refine zaK (fun a' w'=>a'={ tmps:=List.toArray (.slice A l.length c :: .string a :: .string b::undef :: .pointer (some ⟨XA,0,none⟩) :: .pointer (some ⟨XB,0,none⟩) :: .pointer (some ⟨XC,0,none⟩) :: .int .i64 i :: .int .i64 o :: .bool true::undef :: .pointer (some ⟨Bx,0,none⟩) :: .int .i64 (ff+pp) :: .tuple #[i,o,true] :: .slice A l.length c :: .tuple #[i,o,true] :: .int .i64 i :: .int .i64 o :: .bool true :: .bool true :: .bool false :: .bool false :: .string a :: .int .i64 i :: .int .i64 i :: .bool false :: .bool false :: .bool false :: .string b :: .int .i64 i :: .int .i64 i :: .bool false :: .bool false :: .slice A l.length c :: .func (.func 45) #[] #[.pointer (some ⟨XL,0,none⟩),.pointer (some ⟨XM,0,none⟩)] :: .int .i64 (kk:Int) :: .agg #[fn,te,tl,tb,false,ff,fs] :: .pointer (some ⟨Bx,5,none⟩) :: .int .i64 ff :: .pointer (some ⟨Bx,1,none⟩) :: .agg #[te,tl,tb] :: .int .i64 mm :: .pointer (some ⟨Bx,1,none⟩) :: .agg #[te,tl,tb] :: .int .i64 ee :: .int .i64 pp :: .int .i64 (ff+pp) :: .pointer (some ⟨Bx,1,none⟩) :: .pointer (some ⟨Bx,3,none⟩) :: .int .i64 tb :: .bool false :: .bool false::undef::undef::undef::undef::undef::undef::undef::undef::undef::undef::undef :: .bool false::[]),defers:=[] }∧Frm noS w w' [(Bx, 43,[fn,te,tl,tb,false,ff,fs]),(XM, 4,[false]),(XL, 30,[.slice A l.length c]),(XC, 4,[false]),(XB, 9,[b]),(XA, 9,[a])] []∧Frm noS v w' [] []) (fun w'=>w'.heap[Bx]? = some (.cells #[fn,te,tl,tb,false,ff,fs] 43 (0,0))∧w'.heap[XA]? = some (.cells #[a] 9 (0,0))∧w'.heap[XB]? = some (.cells #[b] 9 (0,0))) 99 (by kernel_rfl) (by kernel_rfl) ?_ ?_
   · replace HG:=hI HG.o.drew;replace HF:=hI HF.o.drew;generalize v1.drew=v2 at *;refine tks [(oS 0 47 (.pointer (some ⟨Bx,1,none⟩))),(oS 1 48 (.pointer (some ⟨Bx,3,none⟩))),(oS 2 49 (.int .i64 tb)),(oS 3 50 (.bool false)),(oS 4 51 (.bool false)),(oN 5 52),(oN 6 53),(oN 7 54),(oN 8 55),(oN 9 56),(oN 10 57),(oN 11 58),(oN 12 59),(oN 13 60),(oN 14 61),(oN 15 62),(oS 16 63 (.bool false))] 0 ?_ (⟨HF.o.at_ 0 rfl,HF.o.at_ 5 rfl,HF.o.at_ 4 rfl⟩) ?_
     · intro wz hSz;obtain⟨hBxs,hXAs,hXBs⟩:=hSz;have cBx3:=(zz hBxs 3).1;refine⟨zQ rfl ?_,zQ rfl ?_,zQ rfl ?_,zQ rfl ?_,zQ rfl ?_,trivial,trivial,trivial,trivial,trivial,trivial,trivial,trivial,trivial,trivial,trivial,zQ rfl ?_,trivial⟩;all_goals (simp only[Act.put,pA,pB,pC,Option.getD];go_simp)
     exact uT0
   rintro a' v3 ⟨rfl,hF,hG⟩;replace HF:=hI hF;replace HG:=hI hG;clear hF hG;gi_wp2_with fail;refine⟨zGJ HG.o.kp,zPo HG.o.kp HZ.o,fun x hx=>?_,HF.o.less (List.sublist_cons_self ..) (fun T hT=>hT)⟩;rcases List.mem_append.1 hx with hx | hx
   · exact HP.o x hx
   obtain rfl:=List.mem_singleton.1 hx;exact fun h=>absurd h HTB.o
  have qt:(tb==0)=true:=by rw[htb];rfl
  clear htb;obtain⟨g1,g2,g3,g4⟩:=HFE.o;have s1:(0:Int)≤ff:=g1;have s2:ff≤ff+pp:=by omega
  have s3:ff+pp≤(a.size:Int):=by omega
  have s4:ff+pp≤(b.size:Int):=by omega
  have sa:∀W,(Instr.slice 9 (.string a) (some (.int .i64 ff)) (some (.int .i64 (ff+pp))) none).run Tryz.prog W=.ok (.string (a.extract ff.toNat (ff+pp).toNat)) W:=fun W=>run_slice_string W 9 a .i64 .i64 _ _ Tryz.underlying9 s1 s2 s3;have sb:∀W,(Instr.slice 9 (.string b) (some (.int .i64 ff)) (some (.int .i64 (ff+pp))) none).run Tryz.prog W=.ok (.string (b.extract ff.toNat (ff+pp).toNat)) W:=fun W=>run_slice_string W 9 b .i64 .i64 _ _ Tryz.underlying9 s1 s2 s4;by_cases hseg:(a.extract ff.toNat (ff+pp).toNat)=(b.extract ff.toNat (ff+pp).toNat)
  case neg =>
   have qs:((a.extract ff.toNat (ff+pp).toNat).toList==(b.extract ff.toNat (ff+pp).toNat).toList)=false:=by rw[zOY];exact decide_eq_false hseg
   clear hseg g1 g2 g3 g4;refine zaK (fun a' w'=>a'={ tmps:=List.toArray (.slice A l.length c :: .string a :: .string b::undef :: .pointer (some ⟨XA,0,none⟩) :: .pointer (some ⟨XB,0,none⟩) :: .pointer (some ⟨XC,0,none⟩) :: .int .i64 i :: .int .i64 o :: .bool true::undef :: .pointer (some ⟨Bx,0,none⟩) :: .int .i64 (ff+pp) :: .tuple #[i,o,true] :: .slice A l.length c :: .tuple #[i,o,true] :: .int .i64 i :: .int .i64 o :: .bool true :: .bool true :: .bool false :: .bool false :: .string a :: .int .i64 i :: .int .i64 i :: .bool false :: .bool false :: .bool false :: .string b :: .int .i64 i :: .int .i64 i :: .bool false :: .bool false :: .slice A l.length c :: .func (.func 45) #[] #[.pointer (some ⟨XL,0,none⟩),.pointer (some ⟨XM,0,none⟩)] :: .int .i64 (kk:Int) :: .agg #[fn,te,tl,tb,false,ff,fs] :: .pointer (some ⟨Bx,5,none⟩) :: .int .i64 ff :: .pointer (some ⟨Bx,1,none⟩) :: .agg #[te,tl,tb] :: .int .i64 mm :: .pointer (some ⟨Bx,1,none⟩) :: .agg #[te,tl,tb] :: .int .i64 ee :: .int .i64 pp :: .int .i64 (ff+pp) :: .pointer (some ⟨Bx,1,none⟩) :: .pointer (some ⟨Bx,3,none⟩) :: .int .i64 tb :: .bool true :: .bool true :: .string a :: .pointer (some ⟨Bx,5,none⟩) :: .int .i64 ff :: .int .i64 (ff+pp) :: .string (a.extract ff.toNat (ff+pp).toNat) :: .string b :: .pointer (some ⟨Bx,5,none⟩) :: .int .i64 ff :: .int .i64 (ff+pp) :: .string (b.extract ff.toNat (ff+pp).toNat) :: .bool true :: .bool true::[]),defers:=[] }∧Frm noS w w' [(Bx, 43,[fn,te,tl,tb,false,ff,fs]),(XM, 4,[false]),(XL, 30,[.slice A l.length c]),(XC, 4,[false]),(XB, 9,[b]),(XA, 9,[a])] []∧Frm noS v w' [] []) (fun w'=>w'.heap[Bx]? = some (.cells #[fn,te,tl,tb,false,ff,fs] 43 (0,0))∧w'.heap[XA]? = some (.cells #[a] 9 (0,0))∧w'.heap[XB]? = some (.cells #[b] 9 (0,0))) 99 (by kernel_rfl) (by kernel_rfl) ?_ ?_
   · replace HG:=hI HG.o.drew;replace HF:=hI HF.o.drew;generalize v1.drew=v2 at *;refine tks [(oS 0 47 (.pointer (some ⟨Bx,1,none⟩))),(oS 1 48 (.pointer (some ⟨Bx,3,none⟩))),(oS 2 49 (.int .i64 tb)),(oS 3 50 (.bool true)),(oS 4 51 (.bool true)),(oS 5 52 (.string a)),(oS 6 53 (.pointer (some ⟨Bx,5,none⟩))),(oS 7 54 (.int .i64 ff)),(oS 8 55 (.int .i64 (ff+pp))),(oS 9 56 (.string (a.extract ff.toNat (ff+pp).toNat))),(oS 10 57 (.string b)),(oS 11 58 (.pointer (some ⟨Bx,5,none⟩))),(oS 12 59 (.int .i64 ff)),(oS 13 60 (.int .i64 (ff+pp))),(oS 14 61 (.string (b.extract ff.toNat (ff+pp).toNat))),(oS 15 62 (.bool true)),(oS 16 63 (.bool true))] 0 ?_ (⟨HF.o.at_ 0 rfl,HF.o.at_ 5 rfl,HF.o.at_ 4 rfl⟩) ?_
     · exact uXH
     exact uT0
   rintro a' v3 ⟨rfl,hF,hG⟩;replace HF:=hI hF;replace HG:=hI hG;clear hF hG;clear sa sb s1 s2 s3 s4 qs qt;have x0:=(zz (HF.o.at_ 3 rfl) 0).1;have x1:=(zz (HF.o.at_ 3 rfl) 0).2;gi_wp2_with fail;exact⟨(zGJ HG.o.kp).trans ((KeepsOthers.setCell _ _ _).from _),rfl,(HF.o.set 3 rfl 0 (.bool false)).less (List.sublist_cons_self ..) (fun T hT=>hT)⟩
  have qs:((a.extract ff.toNat (ff+pp).toNat).toList==(b.extract ff.toNat (ff+pp).toNat).toList)=true:=by rw[hseg];simp
  have HSEG:=hI hseg;clear hseg g1 g2 g3 g4;refine zaK (fun a' w'=>a'={ tmps:=List.toArray (.slice A l.length c :: .string a :: .string b::undef :: .pointer (some ⟨XA,0,none⟩) :: .pointer (some ⟨XB,0,none⟩) :: .pointer (some ⟨XC,0,none⟩) :: .int .i64 i :: .int .i64 o :: .bool true::undef :: .pointer (some ⟨Bx,0,none⟩) :: .int .i64 (ff+pp) :: .tuple #[i,o,true] :: .slice A l.length c :: .tuple #[i,o,true] :: .int .i64 i :: .int .i64 o :: .bool true :: .bool true :: .bool false :: .bool false :: .string a :: .int .i64 i :: .int .i64 i :: .bool false :: .bool false :: .bool false :: .string b :: .int .i64 i :: .int .i64 i :: .bool false :: .bool false :: .slice A l.length c :: .func (.func 45) #[] #[.pointer (some ⟨XL,0,none⟩),.pointer (some ⟨XM,0,none⟩)] :: .int .i64 (kk:Int) :: .agg #[fn,te,tl,tb,false,ff,fs] :: .pointer (some ⟨Bx,5,none⟩) :: .int .i64 ff :: .pointer (some ⟨Bx,1,none⟩) :: .agg #[te,tl,tb] :: .int .i64 mm :: .pointer (some ⟨Bx,1,none⟩) :: .agg #[te,tl,tb] :: .int .i64 ee :: .int .i64 pp :: .int .i64 (ff+pp) :: .pointer (some ⟨Bx,1,none⟩) :: .pointer (some ⟨Bx,3,none⟩) :: .int .i64 tb :: .bool true :: .bool true :: .string a :: .pointer (some ⟨Bx,5,none⟩) :: .int .i64 ff :: .int .i64 (ff+pp) :: .string (a.extract ff.toNat (ff+pp).toNat) :: .string b :: .pointer (some ⟨Bx,5,none⟩) :: .int .i64 ff :: .int .i64 (ff+pp) :: .string (b.extract ff.toNat (ff+pp).toNat) :: .bool false :: .bool false::[]),defers:=[] }∧Frm noS w w' [(Bx, 43,[fn,te,tl,tb,false,ff,fs]),(XM, 4,[false]),(XL, 30,[.slice A l.length c]),(XC, 4,[false]),(XB, 9,[b]),(XA, 9,[a])] []∧Frm noS v w' [] []) (fun w'=>w'.heap[Bx]? = some (.cells #[fn,te,tl,tb,false,ff,fs] 43 (0,0))∧w'.heap[XA]? = some (.cells #[a] 9 (0,0))∧w'.heap[XB]? = some (.cells #[b] 9 (0,0))) 99 (by kernel_rfl) (by kernel_rfl) ?_ ?_
  · replace HG:=hI HG.o.drew;replace HF:=hI HF.o.drew;generalize v1.drew=v2 at *;refine tks [(oS 0 47 (.pointer (some ⟨Bx,1,none⟩))),(oS 1 48 (.pointer (some ⟨Bx,3,none⟩))),(oS 2 49 (.int .i64 tb)),(oS 3 50 (.bool true)),(oS 4 51 (.bool true)),(oS 5 52 (.string a)),(oS 6 53 (.pointer (some ⟨Bx,5,none⟩))),(oS 7 54 (.int .i64 ff)),(oS 8 55 (.int .i64 (ff+pp))),(oS 9 56 (.string (a.extract ff.toNat (ff+pp).toNat))),(oS 10 57 (.string b)),(oS 11 58 (.pointer (some ⟨Bx,5,none⟩))),(oS 12 59 (.int .i64 ff)),(oS 13 60 (.int .i64 (ff+pp))),(oS 14 61 (.string (b.extract ff.toNat (ff+pp).toNat))),(oS 15 62 (.bool false)),(oS 16 63 (.bool false))] 0 ?_ (⟨HF.o.at_ 0 rfl,HF.o.at_ 5 rfl,HF.o.at_ 4 rfl⟩) ?_
    · exact uXH
    exact uT0
  rintro a' v3 ⟨rfl,hF,hG⟩;replace HF:=hI hF;replace HG:=hI hG;clear hF hG;clear sa sb s1 s2 s3 s4 qs qt;gi_wp2_with fail;refine⟨zGJ HG.o.kp,zPo HG.o.kp HZ.o,fun x hx=>?_,HF.o.less (List.sublist_cons_self ..) (fun T hT=>hT)⟩;rcases List.mem_append.1 hx with hx | hx
  · exact HP.o x hx
  obtain rfl:=List.mem_singleton.1 hx;exact fun _=>by show a.extract ff.toNat (ff+z0s ⟨te,tl,tb⟩*zcI ⟨te,tl,tb⟩).toNat=_;rw[HMM.o,HEE.o,HPP.o];exact HSEG.o
 case done=>rintro D xs W hD hxs ⟨hp,hF⟩ hK;have HF3:=HF;clear HF;have HF:=hI hF;have HP:=hI hp;have HK2:=hI hK;clear hp hF hK hcl hco;have x0:=(zz (HF.o.at_ 2 rfl) 0).1;have x1:=(zz (HF.o.at_ 2 rfl) 0).2;gi_wp2_with fail;clear x0 x1;replace HK2:=hI ((KeepsOthers.setCell W ⟨XC,0,none⟩ (.bool true)).same D _ HK2.o rfl);replace HF:=hI (HF.o.set 2 rfl 0 (.bool true));have hK2:=HK2.o;replace HF:=hI (HF.o.gr (grownBy_putObj' _ D (.deferred none)) (fun r e=>by cases e;exact⟨Nat.le_trans HF3.o.kp.siz hD,_,hK2,rfl⟩));have x9:=(zz (HF.o.at_ 2 rfl) 0).1;refine⟨by simp,.inl ⟨_,_,rfl,run_takeDeferred hK2,?_⟩⟩;refine⟨.bool true,by simp[results,Tryz.f6,go_sem,x9],?_⟩;rw[←HPO.o];refine⟨⟨true,rfl,fun _=>⟨h1,h2,fun f hf ho hz j hj=>?_⟩⟩,HF.o.kp⟩;have hm:f∈sSel false l:=List.mem_filter.2 ⟨hf,by rw[ho];rfl⟩;rw[←hxs] at hm;obtain⟨x,hx,rfl⟩:=List.mem_map.1 hm;obtain⟨f1,f2,f3,f4,f5,f6⟩:=HH.o.at_ _ hf;rw[if_neg (by rw[ho];simp)] at f2;exact zhC (HP.o x hx hz) (by omega) (by omega) j (by omega)
 case stop=>rintro D cd pre W hD _ ⟨rfl,hF⟩ hK;have HF3:=HF;clear HF;have HF:=hI hF;have HK2:=hI hK;clear hF hK hcl hco;gi_wp2_with fail;have hK2:=HK2.o;replace HF:=hI (HF.o.gr (grownBy_putObj' _ D (.deferred none)) (fun r e=>by cases e;exact⟨Nat.le_trans HF3.o.kp.siz hD,_,hK2,rfl⟩));have x9:=(zz (HF.o.at_ 2 rfl) 0).1;refine⟨by simp,.inl ⟨_,_,rfl,run_takeDeferred hK2,?_⟩⟩;refine⟨.bool false,by simp[results,Tryz.f6,go_sem,x9],?_⟩;rw[←HPO.o];exact⟨⟨false,rfl,fun h=>absurd h (by simp)⟩,HF.o.kp⟩
end
end Go.Proofs.YtfibdoehmndinaaGreatDoor
