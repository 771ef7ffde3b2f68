/- Parts of a proof. No condition but those that each theorem names. -/
import Derived.WalkKit
namespace Go.Proofs.YtfibdoehmndinaaGreatDoor
structure Jd (p:Prop):Prop where
 o:p
theorem Jd.out {p:Prop} (h:Jd p):p:=h.o
theorem hI {p:Prop} (h:p):Jd p:=⟨h⟩
instance cI:Coe Int Value:=⟨fun x=>.int .i64 x⟩
instance cN:Coe Nat Value:=⟨fun x=>.int .i64 (x:Int)⟩
instance cS:Coe ByteArray Value:=⟨fun x=>.string x⟩
instance cB:Coe Bool Value:=⟨fun x=>.bool x⟩
theorem pA {T:Type} (l:List T) (i:Nat) (a:T):l.toArray.setIfInBounds i a=(l.set i a).toArray:=by simp
theorem pB {T:Type} (x:T) (l:List T) (a:T):(x::l).set 0 a=a::l:=rfl
theorem pC {T:Type} (x:T) (l:List T) (n:Nat) (a:T):(x::l).set (n+1) a=x::l.set n a:=rfl
theorem nB {a b:Int} (h:a≠b):(a==b)=false:=by rw[beq_eq_false_iff_ne];exact h
theorem nC {a b:Int} (h:a≠b):(a != b)=true:=by rw[bne_iff_ne];exact h
end Go.Proofs.YtfibdoehmndinaaGreatDoor
