import Derived.Test.YtmljdnlmpiklgaaGreatDoorSpLoad
namespace Go.Proofs.YtmljdnlmpiklgaaGreatDoor.Sp
open Go Txt
theorem q48z (l:List UInt8):(ofL l).size=l.length:=by
 show l.toArray.size=_
 simp
theorem padL_len {l:List UInt8} (h:l.length≤64):(padL l).length=64:=by
 unfold padL
 rw[List.length_append,zeros_length]
 omega
theorem q32z {α β:Type} {f:α→Option β}:∀{l:List α} {r:List β},allP f l=some r→r.length=l.length
 | [],r,h=>by cases h; rfl
 | x :: l,r,h=>by
   unfold allP at h
   split at h
   ·rename_i y ys _ h2
    cases h
    rw[List.length_cons,List.length_cons,q32z h2]
   ·cases h
theorem allP_mem {α β:Type} {f:α→Option β}:∀{l:List α} {r:List β},allP f l=some r→∀y∈r,∃x∈l,f x=some y
 | [],r,h,y,hy=>by cases h; cases hy
 | x :: l,r,h,y,hy=>by
   unfold allP at h
   split at h
   ·rename_i z ys h1 h2
    cases h
    rcases List.mem_cons.1 hy with rfl | hy
    ·exact⟨x,by simp,h1⟩
    ·obtain⟨x2,hx,h3⟩:=allP_mem h2 y hy
     exact⟨x2,by simp[hx],h3⟩
   ·cases h
theorem allP_append {α β:Type} {f:α→Option β}:∀(l m:List α),allP f (l ++ m)=(match allP f l,allP f m with | some a,some b=>some (a ++ b) | _,_=>none)
 | [],m=>by
   show allP f m=_
   rw[show allP f ([]:List α)=some [] from rfl]
   cases allP f m <;> rfl
 | x :: l,m=>by
   have ih:=allP_append (f:=f) l m
   cases hx:f x <;> cases hl:allP f l <;> cases hm:allP f m <;> simp[allP,hx,hl,hm,ih]
theorem q38z {α β:Type} {f:α→Option β} {l:List α} {r:List β} {x:α} {y:β} (h:allP f l=some r) (hx:f x=some y):allP f (l ++ [x])=some (r ++ [y]):=by
 rw[allP_append,h]
 show(match some r,allP f [x] with | some a,some b=>some (a ++ b) | _,_=>none)=_
 have:allP f [x]=some [y]:=by unfold allP; rw[hx]; rfl
 rw[this]
theorem q46z {α β:Type} {f:α→Option β} {l:List α} {x:α} (hx:x∈l) (h:f x=none):allP f l=none:=by
 induction l with
 | nil=>cases hx
 | cons a r ih=>
   unfold allP
   rcases List.mem_cons.1 hx with rfl | hx
   ·rw[h]
   ·rw[ih hx]
    cases f a <;> rfl
theorem q39z {x:Entry} (h:x.may):(slotL x).length=16:=by
 have hn:x.name.size≤13:=by
  rcases h with h | h
  ·omega
  ·have h2:=h.2.2
   unfold nameB nameL at h2
   simp only[Bool.and_eq_true,decide_eq_true_eq] at h2
   have:=h2.1.1.1.1.2
   rw[Lib.size_eq]
   exact this
 unfold slotL
 rw[List.length_append,List.length_append,List.length_append,textL_length,zeros_length,List.length_singleton,←Lib.size_eq]
 omega
theorem entryP_may {w:List UInt8} {x:Entry} (h:q10z w=some x):x.may:=by
 unfold q10z at h
 split at h
 ·cases h
  exact Or.inl ⟨rfl,rfl⟩
 ·split at h
  ·split at h
   ·split at h
    ·cases h
     assumption
    ·cases h
   ·cases h
  ·cases h
theorem inodeB_len {n:Inode} (h:n.direct.length=8):(inodeB n).size=64:=by
 unfold inodeB
 rw[q48z]
 apply padL_len
 have:(n.direct.flatMap (fun b=>textL 2 b.toNat)).length=16:=by
  obtain⟨k,l,z,p,g,d,m⟩:=n
  match d,h with
  | [d0,d1,d2,d3,d4,d5,d6,d7],_=>rfl
 simp only[List.length_append,textL_length,this,List.length_cons,List.length_nil]
 omega
theorem mapB_len (l:List Nat):(mapB l).length=64:=by unfold mapB; simp
theorem readP_size {g:Geom} {a:Int} {ws:List (List UInt8)} {s:ByteArray} (h:readP g a ws=some s):s.size=64:=by
 cases ws with
 | nil=>cases h
 | cons w r=>
   simp only[readP] at h
   split at h
   ·split at h
    ·cases h; kernel_rfl
    ·cases h
   split at h
   ·unfold q8z at h
    split at h
    ·split at h
     ·rename_i l hl
      unfold tableN at h
      split at h
      ·obtain⟨hlt,he⟩:=List.getElem?_eq_some_iff.1 h
       rw[tabB_length] at hlt
       have:=tabB_at (n:=g.tables.toNat) (List.replicate ((a-2)*16).toNat (0,0) ++ l ++ List.replicate (g.regions-(a-2)*16-(r.length:Int)).toNat (0,0)) hlt
       rw[h] at this
       cases this
       rw[q48z,secB_length (by rw[List.length_take]; omega)]
      ·simp at h
     ·cases h
    ·cases h
   split at h
   ·unfold q15z at h
    split at h
    ·cases h
    ·split at h
     ·split at h
      ·split at h
       ·cases h
        exact inodeB_len (by unfold q36z; simp)
       ·cases h
      ·cases h
     ·cases h
   split at h
   ·unfold q27z at h
    split at h
    ·rename_i h4
     split at h
     ·rename_i l hl
      cases h
      have h1:=q32z hl
      rw[h4] at h1
      have h2:∀x∈l,(slotL x).length=16:=fun x hx=>by
       obtain⟨w,_,hw⟩:=allP_mem hl x hx
       exact q39z (entryP_may hw)
      match l,h1 with
      | [a,b,c,d],_=>
        rw[q48z]
        simp only[List.flatMap_cons,List.flatMap_nil,List.length_append,List.length_nil]
        rw[h2 a (by simp),h2 b (by simp),h2 c (by simp),h2 d (by simp)]
     ·cases h
    ·cases h
   split at h
   ·split at h
    ·split at h
     ·cases h
      unfold superB
      rw[q48z,padL_len (by simp)]
     ·cases h
    ·cases h
   split at h
   ·split at h
    ·split at h
     ·cases h
      unfold wallB
      rw[q48z,padL_len (by simp[textL_length])]
     ·cases h
    ·cases h
   split at h
   ·split at h
    ·unfold mapS at h
     split at h
     ·cases h
      rw[q48z,mapB_len]
     ·cases h
    ·cases h
   split at h
   ·split at h
    ·unfold mapS at h
     split at h
     ·cases h
      rw[q48z,mapB_len]
     ·cases h
    ·cases h
   split at h
   ·split at h
    ·split at h
     ·split at h
      ·cases h
       rw[q48z]
       assumption
      ·cases h
     ·cases h
    ·cases h
   ·cases h
