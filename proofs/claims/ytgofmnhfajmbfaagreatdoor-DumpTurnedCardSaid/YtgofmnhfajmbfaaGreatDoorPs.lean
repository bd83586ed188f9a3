import Derived.Lib.SplitLaws
import Derived.Deep.RegionHeld3
import Derived.Lib.Hide
namespace Go.Proofs.YtgofmnhfajmbfaaGreatDoor.Txt
open Go
def nameL (l:List UInt8):Bool:=decide (1≤l.length) && decide (l.length≤13) && !(l == [46]) && !(l == [46,46]) && !l.contains 47 && !l.contains 0
def nameB (s:ByteArray):Bool:=nameL s.data.toList
def ofL (l:List UInt8):ByteArray:=⟨l.toArray⟩
theorem q22z (l:List UInt8):(ofL l).data.toList=l:=by simp[ofL]
theorem q133z (s:ByteArray):ofL s.data.toList=s:=by cases s; simp[ofL]
theorem ext {a b:ByteArray} (h:a.data.toList=b.data.toList):a=b:=by rw[←q133z a,h,q133z]
theorem nameB_size {s:ByteArray} (h:nameB s=true):1≤s.size∧s.size≤13:=by
 unfold nameB nameL at h
 simp only[Bool.and_eq_true,decide_eq_true_eq] at h
 rw[Lib.size_eq]
 omega
section
variable (c0:UInt8)
def cutAt:List UInt8→List (List UInt8)
 | []=>[[]]
 | c :: r=>if c=c0 then [] :: cutAt r else match cutAt r with
   | []=>[[c]]
   | x :: xs=>(c :: x) :: xs
end
section
variable {c0:UInt8}
theorem cutAt_free {a:List UInt8} (h:∀b∈a,b≠c0):cutAt c0 a=[a]:=by
 induction a with
 | nil=>rfl
 | cons c r ih=>
   have hc:c≠c0:=h c (by simp)
   have hr:=ih (fun b hb=>h b (by simp[hb]))
   unfold cutAt
   rw[if_neg hc,hr]
theorem cutAt_hit {a:List UInt8} (h:∀b∈a,b≠c0) (r:List UInt8):cutAt c0 (a ++ c0 :: r)=a :: cutAt c0 r:=by
 induction a with
 | nil=>simp[cutAt]
 | cons c t ih=>
   have hc:c≠c0:=h c (by simp)
   have hr:=ih (fun b hb=>h b (by simp[hb]))
   rw[List.cons_append]
   conv=>lhs; unfold cutAt
   rw[if_neg hc,hr]
end
end Go.Proofs.YtgofmnhfajmbfaaGreatDoor.Txt
namespace Go.Proofs.YtgofmnhfajmbfaaGreatDoor
open Go
theorem ps0:(∀{α:Type} (l:List α) (i:Nat) (a:α),l.toArray.setIfInBounds i a=(l.set i a).toArray)∧(∀{α:Type} (x:α) (xs:List α) (a:α),(x :: xs).set 0 a=a :: xs)∧(∀{α:Type} (x:α) (xs:List α) (n:Nat) (a:α),(x :: xs).set (n+1) a=x :: xs.set n a) ∧
 (∀{α:Type} (xs:List α) (i:Nat) (h:i<xs.toArray.size),xs.toArray[i]=xs[i]'(by simpa using h))∧(∀{α:Type} (x:α) (xs:List α) (h:0<(x :: xs).length),(x :: xs)[0]=x)∧(∀{α:Type} (x:α) (xs:List α) (i:Nat) (h:i+1<(x :: xs).length),(x :: xs)[i+1]=xs[i]'(Nat.lt_of_succ_lt_succ h)):=
 ⟨fun l i a=>by simp,fun _ _ _=>rfl,fun _ _ _ _=>rfl,fun _ _ _=>by simp,fun _ _ _=>rfl,fun _ _ _ _=>rfl⟩
theorem zh {p:Prop} (h:p):RowKit.Hid p:=Lib.hid h
theorem zx {α:Type _} (t:α):∃x,t=x:=⟨_,rfl⟩
theorem zg (w:World) (a b c:Int):∃x,w.alloc (.cells #[.int .i64 a,.int .i64 b,.int .i64 c] 23)=x:=⟨_,rfl⟩
theorem gg0:(∀{α:Type} (xs:List α) (i:Nat) (h:i<xs.toArray.size),xs.toArray[i]=xs[i]'(by simpa using h))∧(∀{α:Type} (x:α) (xs:List α) (h:0<(x :: xs).length),(x :: xs)[0]=x)∧(∀{α:Type} (x:α) (xs:List α) (i:Nat) (h:i+1<(x :: xs).length),(x :: xs)[i+1]=xs[i]'(Nat.lt_of_succ_lt_succ h)):=
 ⟨fun _ _ _=>by simp,fun _ _ _=>rfl,fun _ _ _ _=>rfl⟩
