/- Parts of a proof, joined. No condition but those that each theorem names. -/
import Derived.Tactics
import Derived.Test.YtfibdoehmndinaaGreatDoorTfG0e1
namespace Go.Proofs.YtfibdoehmndinaaGreatDoor
open Go
section
variable {P:Program} {ops:Array Oper} {Q:Exit→Act→World→Prop} {md:Region.Mode} {S:World→Prop} {L:Nat}
theorem zLs {id:Nat} {a:Act} {w:World} (R:Act→Act→World→Prop) (S:World→Prop) (L:Nat) (hm:P.follows .mixedOrders=true)
  (h:zL4 P .any ops (fun x a' w'=>match x with
   | .normal=>R a a' w'
   | x=>Q x a' w') S L ops.size (Array.replicate ops.size false) a w.drew) (hR:∀a' w',R a a' w'→Q .normal a' w'):(Code.region id ops true).wp P Q a w:=by
 refine Code.wp_mono (Q:=fun x a' w'=>match x with
  | .normal=>R a a' w'
  | x=>Q x a' w') (fun x a' w' hx=>?_) (z1a S L hm h)
 cases x
 case normal=>exact hR _ _ hx
 all_goals exact hx
abbrev zn3 (P:Program) (md:Region.Mode) (ops:Array Oper) (Q:Exit→Act→World→Prop) (S:World→Prop) (L n i:Nat) (oi:Oper) (listed:Array Bool) (a:Act) (w:World):Prop :=
 ∀K:Act→World→Prop,Jd (∀a' w',(i≠L→S w')→zL4 P md ops Q S L n (listed.setIfInBounds i true) a' w'→K a' w')→if Region.wanted oi (yielded ops a.tmps)=true then Oper.wp P oi a w K Q else K (a.put oi.dst undef) w
theorem zej {n:Nat} {listed:Array Bool} {a:Act} {w:World} (rs:List Nat) (hr:Region.ready md ops listed=rs) (hne:rs≠[])
  (h:∀i∈rs,∀oi,ops[i]? = some oi→zn3 P md ops Q S L n i oi listed a w):zL4 P md ops Q S L (n+1) listed a w:=by
 refine⟨fun h0=>absurd (hr.symm.trans h0) hne,fun j hj=>?_⟩;rw[hr] at hj;obtain⟨_,o,ho,_⟩:=mem_ready.1 (hr ▸ hj);exact wpOp_step ho fun K hK=>h j hj o ho K ⟨fun a' w' h1 h2=>hK a' w' ⟨h1,h2⟩⟩
theorem ztc {i j:Nat} {oi oj:Oper} {n:Nat} {listed:Array Bool} {a:Act} {w:World} (hr:Region.ready md ops listed=[i,j]) (hi:ops[i]? = some oi) (hj:ops[j]? = some oj)
  (h1:zn3 P md ops Q S L n i oi listed a w) (h2:zn3 P md ops Q S L n j oj listed a w):zL4 P md ops Q S L (n+1) listed a w :=
 zej [i,j] hr (by simp) fun k hk o ho=>by
  rcases List.mem_cons.1 hk with rfl | hk
  · rw[hi] at ho;cases ho;exact h1
  · obtain rfl:=List.mem_singleton.1 hk
    rw[hj] at ho;cases ho;exact h2
theorem zbb {i j k:Nat} {oi oj ok:Oper} {n:Nat} {listed:Array Bool} {a:Act} {w:World} (hr:Region.ready md ops listed=[i,j,k]) (hi:ops[i]? = some oi) (hj:ops[j]? = some oj) (hk:ops[k]? = some ok)
  (h1:zn3 P md ops Q S L n i oi listed a w) (h2:zn3 P md ops Q S L n j oj listed a w) (h3:zn3 P md ops Q S L n k ok listed a w):zL4 P md ops Q S L (n+1) listed a w :=
 zej [i,j,k] hr (by simp) fun m hm o ho=>by
  rcases List.mem_cons.1 hm with rfl | hm
  · rw[hi] at ho;cases ho;exact h1
  · rcases List.mem_cons.1 hm with rfl | hm
    · rw[hj] at ho;cases ho;exact h2
    · obtain rfl:=List.mem_singleton.1 hm
      rw[hk] at ho;cases ho;exact h3
end
section
variable {P:Program} {ops:Array Oper} {Q:Exit→Act→World→Prop} {md:Region.Mode} {S:World→Prop} {L:Nat}
abbrev TkL:=List (Nat×Option Tmp×Option Value)
def zy:TkL→Act→Act
 | [],a=>a
 | x::l,a=>zy l (a.put x.2.1 (x.2.2.getD undef))
def zW:TkL→Array Bool→Array Bool
 | [],b=>b
 | x::l,b=>zW l (b.setIfInBounds x.1 true)
def z6y (md:Region.Mode) (ops:Array Oper) (L:Nat):TkL→Array Bool→Bool
 | [],_=>true
 | x::l,b=>(match ops[x.1]? with
  | none=>false
  | some o=>o.dst==x.2.1) && (Region.free md ops b x.1 && ((Region.ready md ops b).contains x.1 && (zg4 md ops L x.1 && z6y md ops L l (b.setIfInBounds x.1 true))))
def zOw (ops:Array Oper) (i:Nat) (a:Act):Bool:=match ops[i]? with
 | none=>false
 | some o=>Region.wanted o (yielded ops a.tmps)
def runO (P:Program) (ops:Array Oper) (i:Nat) (a:Act) (w:World) (v:Value):Prop:=match ops[i]? with
 | none=>False
 | some o=>(execOp a.eval o).run P w=.ok (.value v) w
def zeZ (ops:Array Oper):TkL→Act→Bool
 | [],_=>true
 | x::l,a=>(zOw ops x.1 a==x.2.2.isSome) && zeZ ops l (a.put x.2.1 (x.2.2.getD undef))
def z9S (P:Program) (ops:Array Oper) (w:World):TkL→Act→Prop
 | [],_=>True
 | x::l,a=>(match x.2.2 with
  | none=>True
  | some v=>runO P ops x.1 a w v)∧z9S P ops w l (a.put x.2.1 (x.2.2.getD undef))
theorem zQ {i:Nat} {o:Oper} {a:Act} {w:World} {v:Value} (h:ops[i]? = some o) (h2:(execOp a.eval o).run P w=.ok (.value v) w):runO P ops i a w v:=by
 unfold runO;rw[h];exact h2
def zcD (okd:Nat→Bool) (l:TkL):Bool:=l.all fun x=>match x.2.1 with
 | none=>true
 | some d=>okd d
theorem zGe (okd:Nat→Bool) (hs:Region.noSelect ops=true) (hQ:∀d v c a w,okd d=true→Q (.panic c) (a.put (some d) v) w→Q (.panic c) a w):∀(l:TkL) (k:Nat) {n:Nat} {listed:Array Bool} {a:Act} {w:World},n=l.length+k→zcD okd l=true→z6y md ops L l listed=true→zeZ ops l a=true→(∀w,S w→z9S P ops w l a)→S w →
  zL4 P md ops Q S L k (zW l listed) (zy l a) w→zL4 P md ops Q S L n listed a w
 | [],k,n,listed,a,w,hn,_,_,_,_,_,h=>by
  have hn:n=k:=by simpa using hn
  subst hn;exact h
 | x::l,k,n,listed,a,w,hn,ho2,ht,hw,hr,hS,h=>by
  unfold zcD at ho2
  rw[List.all_cons,Bool.and_eq_true] at ho2
  obtain⟨hd1,hd2⟩:=ho2
  obtain⟨i,d,v⟩:=x
  have hn:n=(l.length+k)+1:=by rw[hn,List.length_cons];omega
  subst hn
  unfold z6y at ht
  simp only[Bool.and_eq_true] at ht
  obtain⟨h1,h2,h3,h4,h5⟩:=ht
  cases ho:ops[i]? with
  | none=>rw[ho] at h1;cases h1
  | some o =>
   rw[ho] at h1
   simp only[beq_iff_eq] at h1
   unfold zeZ at hw
   simp only[Bool.and_eq_true,beq_iff_eq] at hw
   obtain⟨hw1,hw2⟩:=hw
   unfold zOw at hw1
   simp only[ho] at hw1
   have hrest:=zGe okd hs hQ l k (listed:=listed.setIfInBounds i true) (a:=a.put d (v.getD undef)) (w:=w) rfl hd2 h5 hw2 (fun w hS=>(hr w hS).2) hS h
   have hQ':∀v c a w,Q (.panic c) (a.put d v) w→Q (.panic c) a w:=fun v c a w hq=>by
    cases d with
    | none=>exact hq
    | some d=>exact hQ d v c a w hd1 hq
   cases v with
   | none=>exact zrC d ho h1 hs h2 h3 h4 (fun c a w hq=>hQ' _ _ _ _ hq) hw1 hS hrest
   | some v =>
    exact zM8 d v ho h1 hs h2 h3 h4 (fun c a w hq=>hQ' _ _ _ _ hq) hw1 (fun w hS=>by
     have:=(hr w hS).1
     simp only[runO,ho] at this
     exact this) hS hrest
theorem zY (hs:Region.noSelect ops=true) (hQ:∀d v c a w,Q (.panic c) (a.put (some d) v) w→Q (.panic c) a w) (l:TkL) (k:Nat) {n:Nat} {listed:Array Bool} {a:Act} {w:World} (hn:n=l.length+k) (ht:z6y md ops L l listed=true) (hw:zeZ ops l a=true) (hr:∀w,S w→z9S P ops w l a) (hS:S w)
  (h:zL4 P md ops Q S L k (zW l listed) (zy l a) w):zL4 P md ops Q S L n listed a w :=
 zGe (fun _=>true) hs (fun d v c a w _ hq=>hQ d v c a w hq) l k hn (by unfold zcD;rw[List.all_eq_true];intro x _;split <;> rfl) ht hw hr hS h
end
end Go.Proofs.YtfibdoehmndinaaGreatDoor
