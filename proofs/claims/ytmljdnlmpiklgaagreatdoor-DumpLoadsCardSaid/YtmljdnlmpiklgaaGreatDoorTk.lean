import Derived.Deep.RegionHeld3
import Derived.Lib.Hide
namespace Go.Proofs.YtmljdnlmpiklgaaGreatDoor
open Go
theorem ps0:(∀{α:Type} (l:List α) (i:Nat) (a:α),l.toArray.setIfInBounds i a=(l.set i a).toArray)∧(∀{α:Type} (x:α) (xs:List α) (a:α),(x :: xs).set 0 a=a :: xs)∧(∀{α:Type} (x:α) (xs:List α) (n:Nat) (a:α),(x :: xs).set (n+1) a=x :: xs.set n a) ∧
 (∀{α:Type} (xs:List α) (i:Nat) (h:i<xs.toArray.size),xs.toArray[i]=xs[i]'(by simpa using h))∧(∀{α:Type} (x:α) (xs:List α) (h:0<(x :: xs).length),(x :: xs)[0]=x)∧(∀{α:Type} (x:α) (xs:List α) (i:Nat) (h:i+1<(x :: xs).length),(x :: xs)[i+1]=xs[i]'(Nat.lt_of_succ_lt_succ h)):=
 ⟨fun l i a=>by simp,fun _ _ _=>rfl,fun _ _ _ _=>rfl,fun _ _ _=>by simp,fun _ _ _=>rfl,fun _ _ _ _=>rfl⟩
theorem zh {p:Prop} (h:p):RowKit.Hid p:=Lib.hid h
theorem zx {α:Type _} (t:α):∃x,t=x:=⟨_,rfl⟩
theorem zg (w:World) (a b c:Int):∃x,w.alloc (.cells #[.int .i64 a,.int .i64 b,.int .i64 c] 23)=x:=⟨_,rfl⟩
theorem gg0:(∀{α:Type} (xs:List α) (i:Nat) (h:i<xs.toArray.size),xs.toArray[i]=xs[i]'(by simpa using h))∧(∀{α:Type} (x:α) (xs:List α) (h:0<(x :: xs).length),(x :: xs)[0]=x)∧(∀{α:Type} (x:α) (xs:List α) (i:Nat) (h:i+1<(x :: xs).length),(x :: xs)[i+1]=xs[i]'(Nat.lt_of_succ_lt_succ h)):=
 ⟨fun _ _ _=>by simp,fun _ _ _=>rfl,fun _ _ _ _=>rfl⟩
section
variable {P:Program} {ops:Array Oper} {Q:Exit→Act→World→Prop} {md:Region.Mode} {S:World→Prop} {oi:Oper} {v:Value} {fuel:Nat} {listed:Array Bool} {a:Act} {w:World}
theorem tkH (i:Nat) (h:wpAnyH P md ops Q S fuel (listed.setIfInBounds i true) (a.put oi.dst v) w) (hi:ops[i]? = some oi:=by rfl) (hs:Region.noSelect ops=true:=by kernel_rfl) (hf:Region.free md ops listed i=true:=by kernel_rfl) (hr:(Region.ready md ops listed).contains i=true:=by kernel_rfl)
 (hw:Region.wanted oi (yielded ops a.tmps)=true:=by rfl) (hQ:∀c a w,Q (.panic c) (a.put oi.dst v) w→Q (.panic c) a w:=by exact fun _ _ _ h=>h) (hv:∀w,S w→(execOp a.eval oi).run P w = .ok (.value v) w:=by(intro w hSw; first | (go_simp; done) | (go_simp; with_reducible rfl))) (hS:S w:=by assumption):wpAnyH P md ops Q S (fuel+1) listed a w:=
 wpAnyH_take hi hs hf hr hQ (Or.inl ⟨hw,hv⟩) hS h
end
