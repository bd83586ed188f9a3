import Derived.Test.YtmljdnlmpiklgaaGreatDoorSpLoad
import Derived.Lib.SlTrimSet
namespace Go.Proofs.YtmljdnlmpiklgaaGreatDoor.Sp
open Go Txt
def digs:List UInt8:=[48,49,50,51,52,53,54,55,56,57]
theorem digs_iff (b:UInt8):digs.contains b=true↔Lib.digitVal b≠none:=by
 have key:∀n:Fin 256,(digs.contains (UInt8.ofNat n.val)=true↔Lib.digitVal (UInt8.ofNat n.val)≠none):=by decide +kernel
 have:=key ⟨b.toNat,UInt8.toNat_lt b⟩
 rwa [UInt8.ofNat_toNat] at this
theorem dropWhile_nil {α:Type} (p:α→Bool):∀l:List α,l.dropWhile p=[]↔∀x∈l,p x=true
 | []=>by simp
 | x :: l=>by
   rw[List.dropWhile_cons]
   by_cases h:p x=true
   ·rw[if_pos h,dropWhile_nil p l]
    simp[h]
   ·rw[if_neg h]
    simp[h]
theorem trim_nil (l cs:List UInt8):Lib.trimS l cs=[]↔∀b∈l,cs.contains b=true:=by
 unfold Lib.trimS Lib.trimLeftS Lib.trimRightS
 rw[dropWhile_nil]
 constructor
 ·intro h
  have h2:l.reverse.dropWhile (cs.contains ·)=[]:=by
   cases hd:l.reverse.dropWhile (cs.contains ·) with
   | nil=>rfl
   | cons x r=>
     have h3:=h x (by rw[List.mem_reverse,hd]; simp)
     have h4:(cs.contains x)=false:=by
      have:=List.head?_dropWhile_not (p:=(cs.contains ·)) l.reverse
      rw[hd] at this
      simpa using this
     rw[h3] at h4
     cases h4
  rw[dropWhile_nil] at h2
  exact fun b hb=>h2 b (List.mem_reverse.2 hb)
 ·intro h b hb
  rw[List.mem_reverse] at hb
  exact h b (List.mem_reverse.1 ((List.dropWhile_sublist _).subset hb))
theorem decFrom_all:∀(l:List UInt8) (a:Nat),(∀b∈l,Lib.digitVal b≠none)↔Lib.decFrom a l≠none
 | [],a=>by simp[Lib.decFrom]
 | b :: r,a=>by
   unfold Lib.decFrom
   cases hb:Lib.digitVal b with
   | none=>simp[hb]
   | some d=>
     have:=decFrom_all r (a*10+d)
     simp only[List.mem_cons,forall_eq_or_imp,hb]
     simpa using this
theorem q57z {l:List UInt8} (h:l=[]∨12<l.length∨Lib.trimS l digs≠[]∨(1<l.length∧l.head? = some 48)):numP l=none:=by
 unfold numP
 split
 ·rfl
 ·rename_i hn
  unfold Lib.decNat
  split
  ·rfl
  ·rename_i he
   rcases h with rfl | h | h | h
   ·simp at he
   ·exact absurd (Or.inl h) hn
   ·cases hd:Lib.decFrom 0 l with
    | none=>rfl
    | some n=>
      refine absurd ((trim_nil l digs).2 (fun b hb=>(digs_iff b).2 ?_)) h
      exact(decFrom_all l 0).2 (by rw[hd]; simp) b hb
   ·exact absurd (Or.inr h) hn
theorem numP_yes {l:List UInt8} (h0:l≠[]) (h1:¬12<l.length) (h2:Lib.trimS l digs=[]) (h3:¬(1<l.length∧l.head? = some 48)):∃n:Nat,numP l=some n∧Lib.atoi l=some (n:Int):=by
 have hd:∀b∈l,Lib.digitVal b≠none:=fun b hb=>(digs_iff b).1 ((trim_nil l digs).1 h2 b hb)
 cases hn:Lib.decFrom 0 l with
 | none=>exact absurd hn ((decFrom_all l 0).1 hd)
 | some n=>
   have hde:Lib.decNat l=some n:=by
    unfold Lib.decNat
    rw[if_neg (by simpa using h0),hn]
   refine⟨n,?_,?_⟩
   ·unfold numP
    rw[if_neg (fun h=>h.elim h1 h3),hde]
   ·cases l with
    | nil=>exact absurd rfl h0
    | cons b r=>
      have hb:=hd b (by simp)
      unfold Lib.atoi
      have e1:(b == 45)=false:=by
       rw[beq_eq_false_iff_ne]
       rintro rfl
       exact hb (by decide)
      have e2:(b == 43)=false:=by
       rw[beq_eq_false_iff_ne]
       rintro rfl
       exact hb (by decide)
      dsimp only
      rw[e1,e2,hde]
      rfl
theorem numP_byte {l:List UInt8} {c:UInt8} (hc:Lib.digitVal c=none) (h:c∈l):numP l=none:=by
 refine q57z (Or.inr (Or.inr (Or.inl fun ht=>?_)))
 exact(digs_iff c).1 ((trim_nil l digs).1 ht c h) hc
theorem indexByte_at {c:UInt8} (b:List UInt8):∀a:List UInt8,(∀x∈a,x≠c)→Lib.indexByte (a ++ c :: b) c=(a.length:Int)
 | [],_=>by simp[Lib.indexByte]
 | x :: a,hn=>by
   have hx:=hn x (by simp)
   have ih:=indexByte_at b a (fun y hy=>hn y (by simp[hy]))
   rw[List.cons_append]
   unfold Lib.indexByte
   have h1:((a.length:Int) == -1)=false:=by rw[beq_eq_false_iff_ne]; omega
   rw[if_neg (by simpa using hx),ih,h1,List.length_cons]
   show(a.length:Int)+1=_
   omega
theorem indexByte_none {c:UInt8}:∀l:List UInt8,c∉l→Lib.indexByte l c = -1
 | [],_=>rfl
 | x :: a,h=>by
   have ih:=indexByte_none a (fun hh:c∈a=>h (List.mem_cons_of_mem _ hh))
   unfold Lib.indexByte
   rw[if_neg (fun e=>h (by rw[←(beq_iff_eq.1 e)]; simp)),ih]
   rfl
theorem q59z (l:List UInt8) (c:UInt8):(c∉l∧Lib.cut l [c]=(l,[],false)∧cutAt c l=[l]) ∨
 ∃a b,l=a ++ c :: b∧Lib.cut l [c]=(a,b,true)∧cutAt c l=a :: cutAt c b:=by
 by_cases h:c∈l
 ·refine Or.inr ?_
  obtain⟨a,b,he,hn,hc⟩:=cutAt_split h
  refine⟨a,b,he,?_,hc⟩
  have hi:Lib.index l [c]=(a.length:Int):=by
   rw[Lib.index_one,he]
   exact indexByte_at b a hn
  unfold Lib.cut
  rw[hi,if_pos (by omega)]
  have e1:((a.length:Int)).toNat=a.length:=by omega
  rw[e1,he,List.take_left' rfl]
  have e2:(a ++ c :: b).drop (a.length + [c].length)=b:=by
   rw[List.length_singleton,←List.drop_drop,List.drop_left' rfl]
   rfl
  rw[e2]
 ·refine Or.inl ⟨h,?_,cutAt_free (fun b hb e=>h (e ▸ hb))⟩
  have hi:Lib.index l [c] = -1:=by
   rw[Lib.index_one]
   exact indexByte_none l h
  unfold Lib.cut
  rw[hi,if_neg (by omega)]
theorem leaseP_cut (w:List UInt8):q13z w=match Lib.cut w [46] with
 | (a,b,true)=>match numP a,numP b with
   | some x,some y=>some ((x:Int),(y:Int))
   | _,_=>none
 | (_,_,false)=>none:=by
 unfold q13z
 rcases q59z w 46 with ⟨_,h1,h2⟩ | ⟨a,b,_,h1,h2⟩
 ·rw[h1,h2]
 ·rw[h1,h2]
  rcases q59z b 46 with ⟨_,_,h4⟩ | ⟨a',b',he,_,h4⟩
  ·rw[h4]
   rfl
  ·have hb:numP b=none:=numP_byte (c:=46) (by decide) (by rw[he]; simp)
   rw[h4]
   dsimp only
   rw[hb]
   cases hc:cutAt 46 b' with
   | nil=>exact absurd hc (q40z _)
   | cons x r=>cases numP a <;> rfl
theorem hexV_index (b:UInt8):Lib.indexByte [48,49,50,51,52,53,54,55,56,57,97,98,99,100,101,102] b=match hexV b with
 | some n=>(n:Int)
 | none=>-1:=by
 have key:∀n:Fin 256,Lib.indexByte [48,49,50,51,52,53,54,55,56,57,97,98,99,100,101,102] (UInt8.ofNat n.val)=(match hexV (UInt8.ofNat n.val) with
  | some n=>(n:Int)
  | none=>-1):=by decide +kernel
 have:=key ⟨b.toNat,UInt8.toNat_lt b⟩
 rwa [UInt8.ofNat_toNat] at this
theorem hexV_lt {b:UInt8} {n:Nat} (h:hexV b=some n):n<16:=by
 unfold hexV at h
 split at h
 ·cases h; omega
 ·split at h
  ·cases h; omega
  ·cases h
theorem q43z {c:UInt8} (hc:hexV c=none):∀l:List UInt8,c∈l→q4z l=none
 | [],h=>by cases h
 | [_],_=>rfl
 | a :: b :: r,h=>by
   unfold q4z
   simp only[List.mem_cons] at h
   rcases h with rfl | rfl | h
   ·rw[hc]
   ·rw[hc]; cases hexV a <;> rfl
   ·rw[q43z hc r h]; cases hexV a <;> cases hexV b <;> rfl
theorem entryP_cut {w:List UInt8} (hw:w≠[45]):q10z w=match Lib.cut w [58] with
 | (a,b,true)=>match numP a,q4z b with
   | some n,some t=>if Entry.may ⟨(n:Int),ofL t⟩ then some ⟨(n:Int),ofL t⟩ else none
   | _,_=>none
 | (_,_,false)=>none:=by
 unfold q10z
 rw[if_neg hw]
 rcases q59z w 58 with ⟨_,h1,h2⟩ | ⟨a,b,_,h1,h2⟩
 ·rw[h1,h2]
 ·rw[h1,h2]
  rcases q59z b 58 with ⟨_,_,h4⟩ | ⟨a',b',he,_,h4⟩
  ·rw[h4]
   rfl
  ·have hb:q4z b=none:=q43z (c:=58) (by decide) b (by rw[he]; simp)
   rw[h4]
   dsimp only
   rw[hb]
   cases hc:cutAt 58 b' with
   | nil=>exact absurd hc (q40z _)
   | cons x r=>cases numP a <;> rfl
