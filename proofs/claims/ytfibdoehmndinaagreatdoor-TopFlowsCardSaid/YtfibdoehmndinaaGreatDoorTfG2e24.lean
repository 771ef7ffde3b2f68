/- Parts of a proof. No condition but those that each theorem names. -/
import Derived.RangeFuncNested
import Derived.RangeFuncBound
import Derived.RangeFuncCalls
import Derived.RangeFuncLeaves
import Derived.Shelf.Abstract
import Derived.Shelf.RegionOpen
import Derived.OwnWalkIn
import Derived.TacticsInMore
import Derived.LoopNIn
import Derived.LoopIn
import Derived.Test.YtfibdoehmndinaaGreatDoorTfG2e23
namespace Go.Proofs.YtfibdoehmndinaaGreatDoor
open Go.RowKit Go.Shelf
set_option linter.unusedVariables false
set_option maxRecDepth 100000
set_option maxHeartbeats 1000000
section
variable {Bo n₀:Nat}
attribute [local go_sem] Oper.semAt_some
def sSel (b:Bool) (l:List TFd):List TFd:=l.filter fun f=>f.out==b
theorem zsz {b:Bool} {l:List TFd} {k:Nat} (h:k<l.length):sSel b (l.take (k+1))=sSel b (l.take k)++(if (l.getD k zr).out=b then [l.getD k zr] else []):=by
 unfold sSel;rw[List.take_succ_eq_append_getElem h,List.getD_eq_getElem?_getD,List.getElem?_eq_getElem h,List.filter_append];show _++[l[k]].filter _=_++(if (l[k]).out=b then [l[k]] else []);by_cases hb:(l[k]).out=b
 · rw[if_pos hb,List.filter_cons,if_pos (by simpa using hb),List.filter_nil]
 rw[if_neg hb,List.filter_cons,if_neg (by simpa using hb),List.filter_nil]
theorem z7H (b:Bool) (l:List TFd) (k:Nat):(sSel b (l.take k)).length≤k :=
 Nat.le_trans (List.length_filter_le _ _) (by rw[List.length_take];exact Nat.min_le_left _ _)
theorem zQb (b:Bool) (l:List TFd) (k:Nat):sSel b (l.take k) <+: sSel b l:=by
 refine⟨sSel b (l.drop k),?_⟩;unfold sSel;rw[←List.filter_append,List.take_append_drop]
abbrev SX (b:Bool) (l:List TFd):Type:={ x:TFd×Nat // x.1∈l∧x.1.out=b }
def KpB (n₀ Bo:Nat) (W W':World):Prop:=Below n₀ W W'∧∀v,W.cell? ⟨Bo,0,none⟩=some v→W'.cell? ⟨Bo,0,none⟩=some v
theorem KpB.trans {A B C:World} (h:KpB n₀ Bo A B) (h2:KpB n₀ Bo B C):KpB n₀ Bo A C:=⟨h.1.trans h2.1,fun v hv=>h2.2 v (h.2 v hv)⟩
theorem KpB.alloc {W:World} (h:n₀≤W.heap.size) (o:Obj):KpB n₀ Bo W (W.alloc o):=⟨(Below.refl n₀ W).alloc h o,fun v hv=>cell_kept hv (World.grownBy_alloc W o none) (fun r e=>by cases e)⟩
theorem KpB.put {w0:World} (h:n₀≤w0.heap.size) (W:World) (l:Nat) (o o':Obj) (hl:w0.heap.size≤l) (ho:W.heap[l]? = some o) (hc:o.isCells=false) (hw:o.isWalk=false):KpB n₀ Bo W (W.putObj l o') :=
 ⟨belowK_b h W l o o' hl ho hc hw,fun v hv=>cell_kept hv (grownBy_putObj' W l o') (fun r e=>by cases e;exact⟨o,ho,hc⟩)⟩
def znH (x:TFd×Nat):Array Value:=#[.int .i64 (x.2:Int),.agg #[.string x.1.name,.int .i64 x.1.ty.elem,.int .i64 x.1.ty.len,.int .i64 x.1.ty.label,.bool x.1.out,.int .i64 x.1.off,.int .i64 x.1.size]]
theorem zO8 (F:Fence) (n:Nat) (hf:F.fn 45) (hro:F.round=none) (hn:1≤n) (lp Bl Bo n₀:Nat) (A:Option Addr) (l:List TFd) (c:Nat) (ob:Bool) (hlen:l.length≤65536) (J Jx:List (SX ob l)→World→Prop) (W:World)
  (hJ:AbidesFrom W.heap.size J) (hn₀:n₀≤W.heap.size)
  (hY:∀pre x W1,J pre W1→pre.length<l.length+1→YieldAt F (n-1) Tryz.prog lp (znH x.1) W1 fun e W' =>
   (e=.returned (.bool true)∧J (pre++[x]) W'∧KpB n₀ Bo W1 W')∨(e=.returned (.bool false)∧Jx (pre++[x]) W'))
  (hBl:W.cell? ⟨Bl,0,none⟩=some (.slice A l.length c)) (hBo:W.cell? ⟨Bo,0,none⟩=some (.bool ob)) (hx:zj zru W n₀ (.slice A l.length c) l) (h0:J [] W) :
  CallsIn F n Tryz.prog 45 #[.func (.yield lp) #[] #[],.pointer (some ⟨Bl,0,none⟩),.pointer (some ⟨Bo,0,none⟩)] W fun e W'=>(∃v,e=.returned v) ∧
   ((∃ys,ys.map (fun x=>x.1.1)=sSel ob l∧J ys W')∨(∃pre,pre.map (fun x=>x.1.1) <+: sSel ob l∧Jx pre W')):=by
 refine callsIn_of_wp Tryz.func45 rfl hf ?_ hro
 simp only[Tryz.ntmps45,List.size_toArray,List.length_cons,List.length_nil,Nat.reduceAdd,Nat.reduceSub,Array.replicate_succ,Array.replicate_zero,List.push_toArray,List.append_toArray,List.nil_append,List.cons_append]
 have HXX:=hI hx
 have HLEN:=hI hlen
 have HN:=hI hn₀
 clear hx hlen hn₀
 gi_wp2
 gi_loopw [4,9] (fun vk vi wr=>∃(k:Nat) (pre:List (SX ob l)),k≤l.length∧vi=.int .i64 k∧vk=.int .i64 (pre.length:Int)∧pre.map (fun x=>x.1.1)=sSel ob (l.take k)∧J pre wr∧Jd (KpB n₀ Bo W wr))
  (fun _ vi _=>l.length-(intOf vi).toNat)
 case atStart=>exact⟨0,[],Nat.zero_le _,rfl,rfl,rfl,h0,hI ⟨Below.refl _ _,fun v hv=>hv⟩⟩
 case round =>
  obtain⟨k,pre,hi,rfl,rfl,hpre,hJs,HB⟩:=hrel
  by_cases hlt:k<l.length
  case pos =>
   obtain⟨b,off,rfl,hb,hfc⟩:=zte HXX.o k hlt
   have hsel:=zsz (b:=ob) hlt
   have hpl:pre.length≤k:=by
    have:=congrArg List.length hpre
    rw[List.length_map] at this
    rw[this];exact z7H ob l k
   have hmem:l.getD k zr∈l:=by rw[List.getD_eq_getElem?_getD,List.getElem?_eq_getElem hlt];exact List.getElem_mem hlt
   rw[←hpre] at hsel
   obtain⟨f,hff⟩:∃f,l.getD k zr=f:=⟨_,rfl⟩
   rw[hff] at hfc hsel hmem
   clear hff hpre
   obtain⟨fn,⟨te,tl,tb⟩,fo,ff,fs⟩:=f
   simp only at hfc hsel
   obtain⟨d0,d1,d2,d3,d4,d5,d6⟩:=hfc wr HB.o.1
   have k0:(0:Int)≤(k:Int):=by omega
   have k1:(k:Int)<(l.length:Int):=by omega
   have hJa:=hJ pre wr _ none hJs (World.grownBy_alloc wr (.cells #[fn,te,tl,tb,fo,ff,fs] 43) none) (fun r e=>by cases e)
   have hBa:=KpB.alloc (n₀:=n₀) (Bo:=Bo) (W:=wr) (Nat.le_trans HN.o HB.o.1.size) (.cells #[fn,te,tl,tb,fo,ff,fs] 43)
   have c1:=hBa.2 _ (HB.o.2 _ hBo)
   have HBA:=hI hBa
   have HMEM:=hI hmem
   have HPL:=hI hpl
   have HLT1:=hI hlt
   have hz2:(k:Int)<65537:=by have:=HLEN.o;omega
   clear hBa hmem hpl hfc hlt hi
   by_cases ho:fo=ob
   case pos =>
    rw[if_pos ho] at hsel
    have HSEL:=hI hsel
    have HO:=hI ho
    clear hsel
    subst ho
    obtain⟨g,asn,tmps,body,hy,hR⟩:=hY pre ⟨(⟨fn,⟨te,tl,tb⟩,fo,ff,fs⟩,pre.length),HMEM.o,rfl⟩ _ hJa (by have:=HPL.o;have:=HLT1.o;omega)
    dsimp only [znH] at hy
    gi_wp2
    refine hR.mono ?_
    rintro e W3 (⟨rfl,hJ3,hk3⟩ | ⟨rfl,hJx3⟩)
    · have hz0:(0:Int)≤(pre.length:Int):=by omega
      have hz1:(pre.length:Int)<65537:=by have:=HLEN.o;have:=HPL.o;have:=HLT1.o;omega
      gi_wp2
      go_roundw
      case rel=>exact⟨k+1,pre++[⟨(⟨fn,⟨te,tl,tb⟩,fo,ff,fs⟩,pre.length),HMEM.o,rfl⟩],HLT1.o,by simp,by simp,by rw[HSEL.o];simp,hJ3,hI ((HB.o.trans HBA.o).trans hk3)⟩
      case measure=>simp only[intOf];have:=HLT1.o;omega
    gi_wp2
    refine bodyPost_ret (results_none rfl _ _ _) rfl ?_
    exact⟨⟨_,rfl⟩,.inr ⟨pre++[⟨(⟨fn,⟨te,tl,tb⟩,fo,ff,fs⟩,pre.length),HMEM.o,rfl⟩],by rw[List.map_append];exact HSEL.o ▸ zQb fo l (k+1),hJx3⟩⟩
   rw[if_neg ho,List.append_nil] at hsel
   have HSEL:=hI hsel
   clear hsel
   obtain rfl:ob = !fo:=by cases ob <;> cases fo <;> simp_all
   clear ho hY
   gi_wp2
   go_roundw
   case rel=>exact⟨k+1,pre,HLT1.o,by simp,rfl,HSEL.o.symm,hJa,hI (HB.o.trans HBA.o)⟩
   case measure=>simp only[intOf];have:=HLT1.o;omega
  obtain rfl:k=l.length:=by omega
  rw[List.take_length] at hpre
  gi_wp2
  go_end0
  exact⟨⟨_,rfl⟩,.inl ⟨pre,hpre,hJs⟩⟩
theorem za2 (F:Fence) (n:Nat) (hf:F.fn 17) (hro:F.round=none) (A:Option Addr) (m c:Nat) (ob:Bool) (w:World) :
  CallsIn F n Tryz.prog 17 #[.slice A m c,ob] w fun e w'=>e=.returned (.func (.func 45) #[] #[.pointer (some ⟨w.heap.size,0,none⟩),.pointer (some ⟨w.heap.size+1,0,none⟩)])∧w'=(w.alloc (.cells #[.slice A m c] 30)).alloc (.cells #[ob] 4):=by
 refine callsIn_of_wp Tryz.func17 rfl hf ?_ hro;simp only[Tryz.ntmps17,List.size_toArray,List.length_cons,List.length_nil,Nat.reduceAdd,Nat.reduceSub,Array.replicate_succ,Array.replicate_zero,List.push_toArray,List.append_toArray,List.nil_append,List.cons_append];gi_wp2;go_ret;exact⟨rfl,rfl⟩
theorem zIK (F:Fence) (n:Nat) (hf:F.fn 45) (hro:F.round=none) (hn:1≤n) (Bl Bo n₀:Nat) (A:Option Addr) (l:List TFd) (c:Nat) (ob:Bool) (hlen:l.length≤65536) (w:World) (hBl:Bl<w.heap.size) (hBo:Bo<w.heap.size) (hn₀:n₀≤w.heap.size)
  (hcl:w.cell? ⟨Bl,0,none⟩=some (.slice A l.length c)) (hco:w.cell? ⟨Bo,0,none⟩=some (.bool ob)) (hx:zj zru w n₀ (.slice A l.length c) l) :
  SeqStopsK F n Tryz.prog 45 #[.pointer (some ⟨Bl,0,none⟩),.pointer (some ⟨Bo,0,none⟩)] (fun x:SX ob l=>znH x.1) (KpB n₀ Bo) (fun ys=>ys.map (fun x=>x.1.1)=sSel ob l) (fun pre=>pre.map (fun x=>x.1.1) <+: sSel ob l) (l.length+1) w:=fun lp J Jx W hW hJ _ hY h0 =>
 have hw:=hW.mono hn₀
 zO8 F n hf hro hn lp Bl Bo n₀ A l c ob hlen J Jx W hJ (Nat.le_trans hn₀ hW.size) hY ((hW.cell (p:=⟨Bl,0,none⟩) hBl).trans hcl) ((hW.cell (p:=⟨Bo,0,none⟩) hBo).trans hco) (hx.keep (Nat.le_refl _) (fun a ha=>hw.cell ha)) h0
end
end Go.Proofs.YtfibdoehmndinaaGreatDoor
