/- Parts of a proof. No condition but those that each theorem names. -/
import Derived.Maps.RangeWalk
import Derived.Maps.OwnSet
import Derived.StringKeys
import Derived.Test.YtfibdoehmndinaaGreatDoorTfG0e7
namespace Go.Proofs.YtfibdoehmndinaaGreatDoor
open Go.RowKit Go.Maps Go.ChangeMaps Go.MapKept Go.WideMaps
set_option linter.unusedVariables false
set_option maxRecDepth 10000
section
variable {z:Value}
section
variable {p:Prop}
theorem uVx (h:p:=by
 have hat:D.atKey (.string t.data.toList) (.held z)=.held v:=by have:=congrArg (Option.map Prod.fst) hv;simp[z0y] at this;exact this.symm
 rw[hrun];have hg:=hget t;unfold vget at hg;cases hh:Maps.has D (.string t.data.toList)
 case false=>rw[hh,if_neg (by simp)] at hg;rw[Maps.atKey_of_not_has hh] at hat;injection hat with hat;subst hat;rw[←hg];rfl
 rw[hh,if_pos rfl] at hg;have h2:D.atKey (.string t.data.toList) .nil=.held v:=by rw[←hat];exact zdr hh _ _
 rw[h2] at hg;rw[←hg];rfl):p:=h
end
theorem lawS:Maps.Keyed Tryz.prog 9 := Maps.string_keyed Tryz.underlying9
theorem zdr {H:Type} {D:DataW H} {k:Lit} (h:Maps.has D k=true) (z z':DataW H):D.atKey k z=D.atKey k z':=by
 cases D <;> try (cases h;done)
 rename_i es;obtain⟨p,hp,hpk⟩:=List.any_eq_true.1 h;have hs:(es.find? (fun p=>p.1.sameKey k)).isSome=true:=List.find?_isSome.2 ⟨p,hp,hpk⟩;obtain⟨x,hx⟩:=Option.isSome_iff_exists.1 hs;simp[DataW.atKey,hx]
def z0y (v:Value):Option (DataW Value×List MemPlace):=some (.held v,[])
def zm0:DataW Value→Option Value
 | .held v=>some v
 | _=>none
def vget (D:DataW Value) (k:ByteArray):Option Value:=if Maps.has D (.string k.data.toList)=true then zm0 (D.atKey (.string k.data.toList) .nil) else none
def MapV (w:World) (b n:Nat) (f:ByteArray→Option Value):Prop:=∃D:DataW Value,w.ownsMap Tryz.prog 9 z0y b n D∧∀k,vget D k=f k
theorem zLg {a b:ByteArray} (h:a≠b):(Lit.string a.data.toList)≠.string b.data.toList:=fun e=>h (by
 injection e with e
 have h1:a.data=b.data:=Array.toList_inj.1 e
 cases a;cases b;cases h1;rfl)
theorem z4Q (k:ByteArray):WideAt.IsKeyLit (.string k.data.toList):=trivial
theorem zit (D:DataW Value) (t k:ByteArray):vget (D.del (.string t.data.toList)) k=if k=t then none else vget D k:=by
 unfold vget;by_cases h:k=t
 · subst h;rw[Maps.has_del_same,if_pos rfl];rfl
 rw[Maps.has_del_other (zLg h),Maps.atKey_del_other (zLg h),if_neg h]
theorem zzW {D:DataW Value} (hD:Maps.IsMap D) (t k:ByteArray) (v:Value):vget (D.put (.string t.data.toList) (.held v)) k=if k=t then some v else vget D k:=by
 unfold vget;by_cases h:k=t
 · subst h;rw[Maps.has_put_same hD (z4Q k),Maps.atKey_put_same hD (z4Q k),if_pos rfl,if_pos rfl];rfl
 rw[Maps.has_put_other (zLg h),Maps.atKey_put_other (zLg h),if_neg h]
theorem z6b (k:ByteArray):vget (.map []) k=none:=rfl
theorem z3s (w:World):MapV (w.alloc (.map #[] 0)) w.heap.size 0 (fun _=>none):=⟨.map [],World.ownsMap_made _ _ _ _,z6b⟩
section
variable {w w':World} {b n:Nat} {f:ByteArray→Option Value} {T E:TypeId}
theorem MapV.keep (h:MapV w b n f) {row:Option Nat} (hg:w.grownBy w' row) (hne:some b≠row):MapV w' b n f:=by
 obtain⟨D,h1,h2⟩:=h;exact⟨D,h1.kept hg hne,h2⟩
theorem MapV.below (h:MapV w b n f) (hb:Below w.heap.size w w'):MapV w' b n f :=
 h.keep (row:=none) ⟨hb.os,hb.tape,hb.output,hb.size,fun k hk _=>hb.block k hk⟩ (by simp)
theorem MapV.setCell (h:MapV w b n f) (q:Addr) (u:Value) (hq:q.block≠b):MapV (w.setCell q u) b n f:=h.keep (zjV w q u) (fun e=>hq (by injection e with e;exact e.symm))
theorem MapV.lt (h:MapV w b n f):b<w.heap.size:=by obtain⟨D,h1,_⟩:=h;exact h1.lt
theorem MapV.mono (h:MapV w b n f) {m:Nat} (hm:n≤m):MapV w b m f:=by obtain⟨D,h1,h2⟩:=h;exact⟨D,h1.mono hm,h2⟩
theorem MapV.look (hT:Tryz.prog.underlying T=some (.map 9 E)) (h:MapV w b n f) (hz:(zeroValue E).run Tryz.prog w=.ok z w) (t:ByteArray) (ht:t.size≤maxLen) :
  (Instr.lookup T (.map (some b)) (.string t) true).run Tryz.prog w=.ok (.tuple #[(f t).getD z,.bool (f t).isSome]) w:=by
 obtain⟨D,hown,hget⟩:=h;obtain⟨v,ps,hrun,hv⟩:=hown.look_ok lawS hT hz (zd:=.held z) (zp:=[]) rfl (keyOf_string_mk Tryz.underlying9 ht);exact uVx
theorem MapV.look1 (hT:Tryz.prog.underlying T=some (.map 9 E)) (h:MapV w b n f) (hz:(zeroValue E).run Tryz.prog w=.ok z w) (t:ByteArray) (ht:t.size≤maxLen) :
  (Instr.lookup T (.map (some b)) (.string t) false).run Tryz.prog w=.ok ((f t).getD z) w:=by
 obtain⟨D,hown,hget⟩:=h;obtain⟨v,ps,hrun,hv⟩:=hown.lookup lawS hT hz (zd:=.held z) (zp:=[]) rfl (keyOf_string_mk Tryz.underlying9 ht);exact uVx
theorem MapV.drop (hT:Tryz.prog.underlying T=some (.map 9 E)) (h:MapV w b n f) (t:ByteArray) (ht:t.size≤maxLen) (ty:TypeId) :
  ∃w',(Builtin.delete_ #[T, 9] ty #[.map (some b),t]).run Tryz.prog w=.ok (.tuple #[]) w'∧MapV w' b n (fun k=>if k=t then none else f k)∧w.grownBy w' (some b):=by
 obtain⟨D,hown,hget⟩:=h;obtain⟨w',h1,h2,h3⟩:=hown.drop lawS hT (keyOf_string_mk Tryz.underlying9 ht) ty;exact⟨w',h1,⟨_,h2,fun k=>by rw[zit,hget k]⟩,h3.grown⟩
theorem MapV.store (hT:Tryz.prog.underlying T=some (.map 9 E)) (h:MapV w b n f) (hn:n<maxLen) (t:ByteArray) (v:Value) (ht:t.size≤maxLen) :
  ∃w',(Instr.mapUpdate T (.map (some b)) (.string t) v).run Tryz.prog w=.ok () w'∧MapV w' b (n+1) (fun k=>if k=t then some v else f k)∧w.grownBy w' (some b):=by
 obtain⟨D,hown,hget⟩:=h;have hM:=hown.isMap;obtain⟨w',h1,h2,h3⟩:=hown.store lawS hT hn (keyOf_string_mk Tryz.underlying9 ht) (d:=.held v) (ps:=[]) rfl;exact⟨w',h1,⟨_,h2,fun k=>by rw[zzW hM,hget k]⟩,h3.grown⟩
theorem zuP {T:Type} [BEq T] [LawfulBEq T]:∀(l L:List T),l.Pairwise (·≠·)→(∀x∈l,x∈L)→l.length≤L.length
 | [],L,_,_=>Nat.zero_le _
 | a::l,L,hp,hs=>by
  obtain⟨h1,h2⟩:=List.pairwise_cons.1 hp
  have ha:=hs a (by simp)
  have:=zuP l (L.erase a) h2 (fun x hx=>(List.mem_erase_of_ne (Ne.symm (h1 x hx))).2 (hs x (by simp[hx])))
  rw[List.length_erase_of_mem ha] at this
  have hp:=List.length_pos_of_mem ha
  rw[List.length_cons];omega
def litS:Lit→ByteArray
 | .string l=>⟨⟨l⟩⟩
 | _=>⟨#[]⟩
theorem MapV.tight (h:MapV w b n f) (L:List ByteArray) (hL:∀x,f x≠none→x∈L):MapV w b L.length f:=by
 obtain⟨D,hown,hget⟩:=h;have hown0:=hown;obtain⟨es,clock,hb,F,hs,hD⟩:=hown;refine⟨D,⟨es,clock,hb,F,?_,hD⟩,hget⟩;have hap:=Maps.fit_apart lawS F;have hkey:∀p∈es.toList.map (Go.WideElems.rg Tryz.prog 9 z0y),∃s:ByteArray,p.1=.string s.data.toList∧∃v,p.2=.held v:=fun p hp=>by obtain⟨x,hx,rfl⟩:=List.mem_map.1 hp;obtain⟨y,hy⟩:=F.reads x hx;rw[Go.WideElems.rg_of hy];obtain⟨s,_,h2,_⟩:=string_of_keyOf Tryz.underlying9 (Go.WideElems.rd_key hy);refine⟨s,h2,x.val,?_⟩;unfold Go.WideElems.rd at hy;rw[Go.WideElems.rd_key (show Go.WideElems.rd Tryz.prog 9 z0y x=some y from hy)] at hy;simp[z0y] at hy;rw[←hy]
 have hin:∀p∈es.toList.map (Go.WideElems.rg Tryz.prog 9 z0y),litS p.1∈L:=fun p hp=>by
  obtain⟨s,h1,v,h2⟩:=hkey p hp;have e1:litS p.1=s:=by rw[h1];rfl
  rw[e1];refine hL s ?_;rw[←hget s];have hmem:p∈(es.toList.map (Go.WideElems.rg Tryz.prog 9 z0y)).foldr DataW.insert []:=mem_sorted.2 hp;have hh:Maps.has D (.string s.data.toList)=true:=by rw[hD];exact List.any_eq_true.2 ⟨p,hmem,by rw[h1];simp[Lit.sameKey]⟩
  unfold vget;rw[if_pos hh];have hf:∃q,((es.toList.map (Go.WideElems.rg Tryz.prog 9 z0y)).foldr DataW.insert []).find? (fun p=>p.1.sameKey (.string s.data.toList))=some q:=by refine Option.isSome_iff_exists.1 (List.find?_isSome.2 ⟨p,hmem,by rw[h1];simp[Lit.sameKey]⟩)
  obtain⟨q,hq⟩:=hf;obtain⟨_,_,v',h3⟩:=hkey q (mem_sorted.1 (List.mem_of_find?_eq_some hq));rw[hD];simp[DataW.atKey,hq,h3,zm0]
 have h1:=@zuP ByteArray instBEqOfDecidableEq inferInstance ((es.toList.map (Go.WideElems.rg Tryz.prog 9 z0y)).map fun p=>litS p.1) L (by
  rw[List.pairwise_map];refine hap.imp_of_mem fun {p q} hp hq hne e=>hne ?_;obtain⟨s,h1,_⟩:=hkey p hp;obtain⟨s',h2,_⟩:=hkey q hq;rw[h1,h2] at e ⊢;have:s=s':=e;rw[this]) (fun x hx=>by
  obtain⟨p,hp,rfl⟩:=List.mem_map.1 hx;exact hin p hp)
 simpa using h1
end
end
end Go.Proofs.YtfibdoehmndinaaGreatDoor
