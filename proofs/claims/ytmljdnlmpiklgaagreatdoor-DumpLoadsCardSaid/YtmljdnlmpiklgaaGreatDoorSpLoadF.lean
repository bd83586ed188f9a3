import Derived.Test.YtmljdnlmpiklgaaGreatDoorSpLoadW
import Derived.Test.YtmljdnlmpiklgaaGreatDoorSpLoadS
namespace Go.Proofs.YtmljdnlmpiklgaaGreatDoor.Sp
open Go Txt
section
variable {c:UInt8} {l:List UInt8} {k f:Nat} {out:List (List UInt8)}
def CutI (c:UInt8) (l:List UInt8) (k f:Nat) (out:List (List UInt8)):Prop:=
 (k≤l.length→f≤k∧(∀j,f≤j→j<k→l[j]?≠some c)∧cutAt c l=out ++ cutAt c (l.drop f))∧(l.length<k→out=cutAt c l)∧out.length≤f
theorem CutI.zero:CutI c l 0 0 []:=
 ⟨fun _=>⟨Nat.le_refl _,fun j _ h=>absurd h (Nat.not_lt_zero _),by rw[List.drop_zero,List.nil_append]⟩,fun h=>absurd h (Nat.not_lt_zero _),Nat.le_refl _⟩
theorem CutI.skip (h:CutI c l k f out) {b:UInt8} (hk:l[k]? = some b) (hb:b≠c):CutI c l (k+1) f out:=by
 have hlt:=(List.getElem?_eq_some_iff.1 hk).1
 obtain⟨h1,h2,h3⟩:=h
 obtain⟨h4,h5,h6⟩:=h1 (by omega)
 refine⟨fun _=>⟨by omega,fun j hj1 hj2 e=>?_,h6⟩,fun hl=>absurd hl (by omega),h3⟩
 by_cases hjk:j=k
 ·subst hjk
  rw[hk] at e
  exact hb (Option.some.inj e)
 ·exact h5 j hj1 (by omega) e
theorem CutI.free (h:CutI c l k f out) (hk:k≤l.length):∀x∈(l.drop f).take (k-f),x≠c:=by
 obtain⟨h4,h5,h6⟩:=h.1 hk
 intro x hx e
 subst e
 obtain⟨j,hj,he⟩:=List.getElem_of_mem hx
 rw[List.length_take,List.length_drop] at hj
 rw[List.getElem_take,List.getElem_drop] at he
 exact h5 (f+j) (by omega) (by omega) (by rw[List.getElem?_eq_getElem (by omega),he])
theorem CutI.le (h:CutI c l k f out) (hk:k≤l.length):f≤k:=(h.1 hk).1
theorem CutI.hit (h:CutI c l k f out) (hk:l[k]? = some c):CutI c l (k+1) (k+1) (out ++ [(l.drop f).take (k-f)]):=by
 obtain⟨hlt,hke⟩:=List.getElem?_eq_some_iff.1 hk
 have hfr:=h.free (Nat.le_of_lt hlt)
 obtain⟨h1,h2,h3⟩:=h
 obtain⟨h4,h5,h6⟩:=h1 (by omega)
 refine⟨fun _=>⟨Nat.le_refl _,fun j hj1 hj2=>absurd hj2 (by omega),?_⟩,fun hl=>absurd hl (by omega),by rw[List.length_append,List.length_singleton]; omega⟩
 have e:l.drop f=(l.drop f).take (k-f) ++ c :: l.drop (k+1):=by
  have e1:=(List.take_append_drop (k-f) (l.drop f)).symm
  rw[List.drop_drop,show f+(k-f)=k by omega,List.drop_eq_getElem_cons hlt,hke] at e1
  exact e1
 rw[h6,List.append_assoc]
 congr 1
 conv=>lhs; rw[e]
 rw[cutAt_hit hfr]
 rfl
theorem CutI.last (h:CutI c l l.length f out):CutI c l (l.length+1) (l.length+1) (out ++ [(l.drop f).take (l.length-f)]):=by
 have hfr:=h.free (Nat.le_refl _)
 obtain⟨h1,h2,h3⟩:=h
 obtain⟨h4,h5,h6⟩:=h1 (Nat.le_refl _)
 refine⟨fun hl=>absurd hl (by omega),fun _=>?_,by rw[List.length_append,List.length_singleton]; omega⟩
 have e:(l.drop f).take (l.length-f)=l.drop f:=List.take_of_length_le (by rw[List.length_drop]; omega)
 rw[e] at hfr ⊢
 rw[h6,cutAt_free hfr]
theorem CutI.end (h:CutI c l k f out) (hk:l.length<k):out=cutAt c l:=h.2.1 hk
end
def numR (l:List UInt8):Int:=match numP l with
 | some n=>(n:Int)
 | none=>-1
theorem numR_some {l:List UInt8} {n:Nat} (h:numP l=some n):numR l=(n:Int):=by unfold numR; rw[h]
theorem numR_none {l:List UInt8} (h:numP l=none):numR l = -1:=by unfold numR; rw[h]
theorem numP_out {l:List UInt8} (h:l=[]∨12<l.length∨(1<l.length∧l.head? = some 48)):numP l=none:=by
 rcases h with h | h | h
 ·exact q57z (Or.inl h)
 ·exact q57z (Or.inr (Or.inl h))
 ·exact q57z (Or.inr (Or.inr (Or.inr h)))
theorem numP_in {l:List UInt8} {n:Nat} (h0:l≠[]) (h1:¬12<l.length) (h3:¬(1<l.length∧l.head? = some 48)) (h:Lib.decFrom 0 l=some n):numP l=some n:=by
 unfold numP
 rw[if_neg (by rintro(h | h); exact h1 h; exact h3 h)]
 unfold Lib.decNat
 rw[if_neg (by rw[List.isEmpty_iff]; exact h0)]
 exact h
theorem leaseP_nums (w:List UInt8):q13z w=match numsP (cutAt 46 w) with
 | some [x,y]=>some ((x:Int),(y:Int))
 | _=>none:=by
 unfold q13z
 match h:cutAt 46 w with
 | []=>exact absurd h (q40z w)
 | [a]=>
   dsimp only
   show _=match numsP [a] with | some [x,y]=>_ | _=>none
   unfold numsP allP allP
   cases numP a <;> rfl
 | [a,b]=>
   dsimp only
   show _=match numsP [a,b] with | some [x,y]=>_ | _=>none
   unfold numsP allP allP allP
   cases numP a <;> cases numP b <;> rfl
 | a :: b :: d :: r=>
   dsimp only
   cases hn:numsP (a :: b :: d :: r) with
   | none=>rfl
   | some q=>
     have hl:=q32z hn
     match q,hl with
     | x :: y :: z :: q,_=>rfl
