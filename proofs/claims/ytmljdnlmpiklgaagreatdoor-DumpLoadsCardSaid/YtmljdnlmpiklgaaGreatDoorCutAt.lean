import Derived.Lib.SplitLaws
namespace Go.Proofs.YtmljdnlmpiklgaaGreatDoor.Txt
open Go
def nameL (l:List UInt8):Bool:=decide (1≤l.length) && decide (l.length≤13) && !(l == [46]) && !(l == [46,46]) && !l.contains 47 && !l.contains 0
def nameB (s:ByteArray):Bool:=nameL s.data.toList
def ofL (l:List UInt8):ByteArray:=⟨l.toArray⟩
theorem ofL_data (l:List UInt8):(ofL l).data.toList=l:=by simp[ofL]
theorem data_ofL (s:ByteArray):ofL s.data.toList=s:=by cases s; simp[ofL]
theorem ofL_inj {a b:List UInt8} (h:ofL a=ofL b):a=b:=by rw[←ofL_data a,h,ofL_data]
theorem ext {a b:ByteArray} (h:a.data.toList=b.data.toList):a=b:=by rw[←data_ofL a,h,data_ofL]
theorem nameB_size {s:ByteArray} (h:nameB s=true):1≤s.size∧s.size≤13:=by
 unfold nameB nameL at h
 simp only[Bool.and_eq_true,decide_eq_true_eq] at h
 rw[Lib.size_eq]
 omega
section
variable (c0:UInt8)
def cutAt:List UInt8→List (List UInt8)
 | []=>[[]]
 | c :: r=>if c=c0 then [] :: cutAt r else match cutAt r with
   | []=>[[c]]
   | x :: xs=>(c :: x) :: xs
def q14z (s:ByteArray):List ByteArray:=(cutAt c0 s.data.toList).map ofL
end
section
variable {c0:UInt8}
theorem q40z (l:List UInt8):cutAt c0 l≠[]:=by
 cases l with
 | nil=>simp[cutAt]
 | cons c r=>
   unfold cutAt
   split
   ·simp
   ·split <;> simp
theorem cutAt_free {a:List UInt8} (h:∀b∈a,b≠c0):cutAt c0 a=[a]:=by
 induction a with
 | nil=>rfl
 | cons c r ih=>
   have hc:c≠c0:=h c (by simp)
   have hr:=ih (fun b hb=>h b (by simp[hb]))
   unfold cutAt
   rw[if_neg hc,hr]
theorem cutAt_hit {a:List UInt8} (h:∀b∈a,b≠c0) (r:List UInt8):cutAt c0 (a ++ c0 :: r)=a :: cutAt c0 r:=by
 induction a with
 | nil=>simp[cutAt]
 | cons c t ih=>
   have hc:c≠c0:=h c (by simp)
   have hr:=ih (fun b hb=>h b (by simp[hb]))
   rw[List.cons_append]
   conv=>lhs; unfold cutAt
   rw[if_neg hc,hr]
theorem splitK_at:∀s:List UInt8,Lib.splitK [c0] 0 (Lib.count s [c0]) s=cutAt c0 s
 | []=>by rw[Lib.count_miss (by simp[Lib.index])]; rfl
 | c :: r=>by
   have ih:=splitK_at r
   by_cases hc:c=c0
   ·subst hc
    rw[Lib.count_cons_eq,Nat.add_comm]
    have hi:Lib.index (c :: r) [c]=0:=by rw[Lib.index]; simp[List.isPrefixOf]
    unfold Lib.splitK cutAt
    rw[hi]
    simp[ih]
   ·rw[Lib.count_cons_ne c c0 r hc]
    have hp:([c0]:List UInt8).isPrefixOf (c :: r)=false:=by simp[List.isPrefixOf,Ne.symm hc]
    have hix:Lib.index (c :: r) [c0]=if Lib.index r [c0] == -1 then -1 else Lib.index r [c0]+1:=by rw[Lib.index,hp]; simp
    unfold cutAt
    rw[if_neg hc]
    cases hk:Lib.count r [c0] with
    | zero=>
      rw[hk] at ih
      rw[←ih]
      rfl
    | succ k=>
      rw[hk] at ih
      have hge:=Lib.index_ge r [c0]
      have hm:Lib.index r [c0]≠-1:=fun e=>by rw[Lib.count_miss e] at hk; cases hk
      obtain⟨i,hi⟩:∃i:Nat,Lib.index r [c0]=i:=⟨(Lib.index r [c0]).toNat,by omega⟩
      have hb:(Lib.index r [c0] == -1)=false:=beq_eq_false_iff_ne.2 hm
      have hb2:(((i:Int)+1) == -1)=false:=beq_eq_false_iff_ne.2 (by omega)
      have e1:Lib.splitK [c0] 0 (k+1) r=r.take i :: Lib.splitK [c0] 0 k (r.drop (i+1)):=by
       rw[Lib.splitK,hb,hi]; simp
      rw[e1] at ih
      rw[Lib.splitK,hix,hb,hi]
      have e2:((i:Int)+1).toNat=i+1:=by omega
      simp only[Bool.false_eq_true,if_false,hb2,e2,List.length_cons,List.length_nil,Nat.add_zero,Nat.zero_add]
      rw[List.take_succ_cons,List.drop_succ_cons,←ih]
theorem splitB_at (s:ByteArray):Lib.splitB ⟨#[c0]⟩ 0 (Lib.countB s ⟨#[c0]⟩) s=q14z c0 s:=by
 have h:=Lib.splitB_data ⟨#[c0]⟩ 0 (Lib.countB s ⟨#[c0]⟩) s
 have h2:(Lib.splitB ⟨#[c0]⟩ 0 (Lib.countB s ⟨#[c0]⟩) s).map (·.data.toList)=cutAt c0 s.data.toList:=by
  rw[h]; exact splitK_at _
 unfold q14z
 rw[←h2,List.map_map]
 have:(ofL ∘ fun x:ByteArray=>x.data.toList)=id:=by funext x; exact data_ofL x
 rw[this,List.map_id]
theorem one_size:(⟨#[c0]⟩:ByteArray).size=1:=rfl
theorem count_at (s:ByteArray):Lib.countB s ⟨#[c0]⟩+1=(q14z c0 s).length:=by
 rw[←splitB_at,Lib.splitB_all _ (by rw[one_size]; decide) 0 _ s rfl]
theorem q21z (s:ByteArray):(q14z c0 s).length≤s.size+1:=by
 rw[←count_at]
 have:=Lib.countB_le ⟨#[c0]⟩ (by rw[one_size]; decide) s.size s (Nat.le_refl _)
 omega
theorem q29z:∀{l:List UInt8} {x:List UInt8},x∈cutAt c0 l→(∀b∈x,b≠c0)∧x.length≤l.length
 | [],x,h=>by
   unfold cutAt at h
   rw[List.mem_singleton.1 h]
   exact⟨by simp,Nat.le_refl _⟩
 | c :: r,x,h=>by
   unfold cutAt at h
   by_cases hc:c=c0
   ·rw[if_pos hc] at h
    rcases List.mem_cons.1 h with rfl | h
    ·exact⟨by simp,by simp⟩
    ·have:=q29z h
     exact⟨this.1,by rw[List.length_cons]; omega⟩
   ·rw[if_neg hc] at h
    cases hr:cutAt c0 r with
    | nil=>exact absurd hr (q40z r)
    | cons y ys=>
      rw[hr] at h
      rcases List.mem_cons.1 h with rfl | h
      ·have:=q29z (l:=r) (x:=y) (by rw[hr]; simp)
       refine⟨fun b hb=>?_,by rw[List.length_cons,List.length_cons]; omega⟩
       rcases List.mem_cons.1 hb with rfl | hb
       ·exact hc
       ·exact this.1 b hb
      ·have:=q29z (l:=r) (x:=x) (by rw[hr]; simp[h])
       exact⟨this.1,by rw[List.length_cons]; omega⟩
theorem mem_first:∀l:List UInt8,c0∈l→∃a b,l=a ++ c0 :: b∧c0∉a
 | [],h=>by cases h
 | c :: r,h=>by
   by_cases hc:c=c0
   ·exact⟨[],r,by rw[hc]; rfl,by simp⟩
   ·obtain⟨a,b,e,hn⟩:=mem_first r (by rcases List.mem_cons.1 h with h | h; exact absurd h.symm hc; exact h)
    exact⟨c :: a,b,by rw[e]; rfl,by simp[hn,Ne.symm hc]⟩
theorem cutAt_split {l:List UInt8} (h:c0∈l):∃a b,l=a ++ c0 :: b∧(∀x∈a,x≠c0)∧cutAt c0 l=a :: cutAt c0 b:=by
 obtain⟨a,b,he,hn⟩:=mem_first l h
 have h2:∀x∈a,x≠c0:=fun x hx e=>hn (e ▸ hx)
 exact⟨a,b,he,h2,by rw[he]; exact cutAt_hit h2 b⟩
end
