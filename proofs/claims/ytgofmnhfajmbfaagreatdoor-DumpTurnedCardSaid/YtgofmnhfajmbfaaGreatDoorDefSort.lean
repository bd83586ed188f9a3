import Derived.Test.YtgofmnhfajmbfaaGreatDoorDefKeys
import Derived.Test.YtgofmnhfajmbfaaGreatDoorSortF
import Derived.Test.YtgofmnhfajmbfaaGreatDoorDepA
namespace Go.Proofs.YtgofmnhfajmbfaaGreatDoor
open Go Go.RowKit Go.Shelf Go.Lib Go.Sort Txt
def cmpI (a b:Int):Int:=if a<b then -1 else if b<a then 1 else 0
def cmpD (x y:Int×Int):Int:=if cmpI x.1 y.1≠0 then cmpI x.1 y.1 else cmpI x.2 y.2
theorem ltD (x y:Int×Int):ltOf cmpD x y=decide (x.1<y.1∨(x.1=y.1∧x.2<y.2)):=by
 unfold ltOf cmpD cmpI
 apply decide_eq_decide.2
 by_cases h1:x.1<y.1
 ·simp[h1]
 ·by_cases h2:y.1<x.1
  ·have:x.1≠y.1:=by omega
   simp[h1,h2,this]
  ·have e:x.1=y.1:=by omega
   by_cases h3:x.2<y.2
   ·simp[e,h3]
   ·by_cases h4:y.2<x.2 <;> simp[e,h3,h4]
theorem swoD:SWO (ltOf cmpD) where
 irrefl x:=by rw[ltD]; simp
 trans x y z h1 h2:=by rw[ltD] at *; simp at *; omega
 ntrans x y z h1 h2:=by rw[ltD] at *; simp at *; omega
theorem totD (x y:Int×Int) (h1:ltOf cmpD x y=false) (h2:ltOf cmpD y x=false):x=y:=by
 rw[ltD] at h1 h2
 obtain⟨a,b⟩:=x
 obtain⟨c,d⟩:=y
 simp at h1 h2 ⊢
 omega
def leD (x y:Int×Int):Bool:=!(ltOf cmpD) y x
theorem leD_iff (x y:Int×Int):leD x y=true↔¬(y.1<x.1∨(y.1=x.1∧y.2<x.2)):=by
 unfold leD
 rw[ltD]
 simp only[Bool.not_eq_true',decide_eq_false_iff_not]
theorem leD_trans (a b c:Int×Int) (h1:leD a b=true) (h2:leD b c=true):leD a c=true:=by
 rw[leD_iff] at *
 omega
theorem leD_total (a b:Int×Int):(leD a b||leD b a)=true:=by
 rw[Bool.or_eq_true,leD_iff,leD_iff]
 omega
theorem leD_anti (a b:Int×Int) (h1:leD a b=true) (h2:leD b a=true):a=b:=by
 rw[leD_iff] at *
 obtain⟨a1,a2⟩:=a
 obtain⟨b1,b2⟩:=b
 simp at h1 h2 ⊢
 omega
theorem sortD_perm {l r:List (Int×Int)} (h:l.Perm r):l.mergeSort leD=r.mergeSort leD:=
 List.Perm.eq_of_pairwise (le:=fun x y=>leD x y=true) (fun a b _ _ h1 h2=>leD_anti a b h1 h2) (List.pairwise_mergeSort leD_trans leD_total l) (List.pairwise_mergeSort leD_trans leD_total r) ((List.mergeSort_perm _ _).trans (h.trans (List.mergeSort_perm _ _).symm))
section
set_option maxHeartbeats 2000000
set_option maxRecDepth 20000
theorem isNaN_any (w:World) (x:Int):Calls Tryz.prog 157 #[.int .i64 x] w fun e w'=>e = .returned (.bool false)∧w=w':=by
 have q:(x != x)=false:=by simp
 go_enter Tryz.func157,Tryz.ntmps157
 go_wp2
 go_ret
 exact⟨rfl,rfl⟩
theorem compare_any (w:World) (a b:Int):Calls Tryz.prog 80 #[.int .i64 a,.int .i64 b] w fun e w'=>e = .returned (.int .i64 (cmpI a b))∧w' = w:=by
 have HA:=zh (isNaN_any w a)
 have HB:=zh (isNaN_any w b)
 unfold cmpI
 by_cases h1:a<b
 ·have q1:decide (a<b)=true:=decide_eq_true h1
  rw[if_pos h1]
  clear h1
  go_enter Tryz.func80,Tryz.ntmps80
  go_wp2_with fail
  refine HA.out.mono ?_
  rintro e w1 ⟨rfl,rfl⟩
  go_wp2_with fail
  refine HB.out.mono ?_
  rintro e w1 ⟨rfl,rfl⟩
  go_wp2
  go_ret
  exact⟨rfl,rfl⟩
 ·have q1:decide (a<b)=false:=decide_eq_false h1
  rw[if_neg h1]
  by_cases h2:b<a
  ·have q2:decide (a > b)=true:=decide_eq_true h2
   rw[if_pos h2]
   clear h1 h2
   go_enter Tryz.func80,Tryz.ntmps80
   go_wp2_with fail
   refine HA.out.mono ?_
   rintro e w1 ⟨rfl,rfl⟩
   go_wp2_with fail
   refine HB.out.mono ?_
   rintro e w1 ⟨rfl,rfl⟩
   go_wp2
   go_ret
   exact⟨rfl,rfl⟩
  ·have q2:decide (a > b)=false:=decide_eq_false h2
   rw[if_neg h2]
   clear h1 h2
   go_enter Tryz.func80,Tryz.ntmps80
   go_wp2_with fail
   refine HA.out.mono ?_
   rintro e w1 ⟨rfl,rfl⟩
   go_wp2_with fail
   refine HB.out.mono ?_
   rintro e w1 ⟨rfl,rfl⟩
   go_wp2
   go_ret
   exact⟨rfl,rfl⟩
theorem or_any (w:World) (p:Nat) (x y:Int) (h:w.heap[p]? = some (.cells #[.int .i64 x,.int .i64 y] 3 (0,0))) :
 Calls Tryz.prog 79 #[.slice (some ⟨p,0,none⟩) 2 2] w fun e w'=>e = .returned (.int .i64 (if x≠0 then x else y))∧w' = w:=by
 have c0:=zc 0 h
 have c1:=zc 1 h
 clear h
 by_cases h1:x=0
 ·have q1:(x != 0)=false:=by rw[h1]; rfl
  rw[if_neg (fun h=>h h1)]
  clear h1
  by_cases h2:y=0
  ·subst h2
   go_enter Tryz.func79,Tryz.ntmps79
   go_wp2
   refine wp_loop_rounds 3 ?_
   rw[rounds_succ]
   go_wp2
   rw[rounds_succ]
   go_wp2
   rw[rounds_succ]
   go_wp2
   go_ret
   exact⟨rfl,rfl⟩
  ·have q2:(y != 0)=true:=by simpa using h2
   go_enter Tryz.func79,Tryz.ntmps79
   go_wp2
   refine wp_loop_rounds 3 ?_
   rw[rounds_succ]
   go_wp2
   rw[rounds_succ]
   go_wp2
   go_ret
   exact⟨rfl,rfl⟩
 ·have q1:(x != 0)=true:=by simpa using h1
  rw[if_pos h1]
  go_enter Tryz.func79,Tryz.ntmps79
  go_wp2
  refine wp_loop_rounds 3 ?_
  rw[rounds_succ]
  go_wp2
  go_ret
  exact⟨rfl,rfl⟩
theorem cmp_any (x y:Int×Int) (W:World):Calls Tryz.prog 78 #[.agg (defC x).toArray,.agg (defC y).toArray] W fun e w'=>e = .returned (.int .i64 (cmpD x y))∧∃q os',w' = grow (W.drewN q) os':=by
 obtain⟨a,b⟩:=x
 obtain⟨c,d⟩:=y
 unfold defC cmpD
 dsimp only
 obtain⟨V,hV⟩:=zx ((W.alloc (.cells #[.int .i64 a,.int .i64 b] 132)).alloc (.cells #[.int .i64 c,.int .i64 d] 132))
 have hz0:V.heap[W.heap.size]? = some (.cells #[.int .i64 a,.int .i64 b] 132 (0,0)):=by rw[←hV]; exact q1z (bl2 _) (q5z W _)
 have hz1:V.heap[W.heap.size+1]? = some (.cells #[.int .i64 c,.int .i64 d] 132 (0,0)):=by rw[←hV]; have:=q5z (W.alloc (.cells #[.int .i64 a,.int .i64 b] 132)) (.cells #[.int .i64 c,.int .i64 d] 132); rwa [World.size_alloc] at this
 have y0:=zc 0 hz0
 have y1:=zc 1 hz0
 have y2:=zc 0 hz1
 have y3:=zc 1 hz1
 have hc1:=compare_any (V.drewN 1) a c
 have hc2:=compare_any (V.drewN 1) b d
 obtain⟨p,hp⟩:=zx (cmpI a c)
 obtain⟨q,hq⟩:=zx (cmpI b d)
 rw[hp] at hc1 ⊢
 rw[hq] at hc2 ⊢
 have hor:=or_any (V.alloc (.cells #[.int .i64 p,.int .i64 q] 3)).drew V.heap.size p q (q5z V _)
 obtain⟨r,hr⟩:=zx ((if p≠0 then p else q))
 rw[hr] at hor ⊢
 have HV:Hid ((V.alloc (.cells #[.int .i64 p,.int .i64 q] 3)).drew=grow (W.drewN 1) #[.cells #[.int .i64 a,.int .i64 b] 132 (0,0),.cells #[.int .i64 c,.int .i64 d] 132 (0,0),.cells #[.int .i64 p,.int .i64 q] 3 (0,0)]):=by
  show _=_
  rw[←hV]
  rfl
 have HC1:=zh hc1
 have HC2:=zh hc2
 have HOR:=zh hor
 clear hc1 hc2 hor
 clear hp hq hr hz0 hz1
 go_enter Tryz.func78,Tryz.ntmps78
 go_wp2_with fail
 clear hV
 go_still_tail 10,(by kernel_rfl)
 still_call HC1.out
 repeat still_step
 still_call HC2.out
 repeat still_step
 refine wpStill_nil ?_
 change wpList _ _ _ _ _ V.drew
 go_wp2_with fail
 refine HOR.out.mono ?_
 rintro e w1 ⟨rfl,rfl⟩
 go_wp2
 go_ret
 exact⟨rfl,1,_,HV.out⟩
theorem defC_len:∀M:List (Int×Int),(M.flatMap defC).length=M.length*2
 | []=>rfl
 | x :: r=>by
   rw[List.flatMap_cons,List.length_append,defC_len r,List.length_cons]
   show 2+_=_
   omega
theorem flat_at (M:List (Int×Int)) {t:Nat} (ht:t<M.length*2):(M.flatMap defC)[t]? = some ((flatK defC 2 M.toArray)[t]!):=by
 rw[get_flatK _ _ _ t (by simpa using ht)]
 have h2:t / 2<M.length:=by omega
 have e:M.flatMap defC=(M.map defC).flatten:=List.flatMap_def ..
 have e2:t / 2*2+t % 2=t:=by omega
 have h3:=flat_get (k:=2) (vs:=M.map defC) (by intro x hx; obtain⟨y,_,rfl⟩:=List.mem_map.1 hx; rfl) (j:=t / 2) (x:=defC M[t / 2]) (by simp[h2]) (i:=t % 2) (y:=(defC M[t / 2])[t % 2]!) (by
  have:t % 2=0∨t % 2=1:=by omega
  rcases this with h | h <;> rw[h] <;> rfl)
 rw[e2] at h3
 rw[e,h3]
 simp[h2]
theorem aggDef (w:World):(isAgg 132).run Tryz.prog w = .ok true w:=by kernel_rfl
theorem sizeDef (w:World):(Go.sizeOf 132).run Tryz.prog w = .ok 2 w:=by kernel_rfl
theorem dsort_any {w:World} {base:Nat} {v:Value} {l:List (Int×Int)} (h:OwnR 132 2 defC base w v l) (hll:l.length≤1000000) :
 Calls Tryz.prog 77 #[v,.func (.func 78) #[] #[]] w fun e w'=>e = .returned (.tuple #[])∧OwnR 132 2 defC base w' v (l.mergeSort leD)∧Turn (fun k=>v.ownBlock=some k) w w':=by
 have h0:=h
 obtain⟨hx,⟨rfl,h1⟩ | ⟨g,cap,cur,rfl,hg,hh,hnc,hm,hcs,htk⟩⟩:=h
 ·obtain rfl:l=[]:=List.eq_nil_of_length_eq_zero h1
  refine(AnyF.slices_SortFunc_none (ρ:=Tryz.sortf77_ren) { Tryz.sortf77 with } none 0 (.func (.func 78) #[] #[]) w).mono ?_
  rintro e w' ⟨rfl,rfl⟩
  exact⟨rfl,by simpa using h0,Turn.refl _ _⟩
 ·have hcell:∀j,j<l.length*2→cur[j]? = some ((flatK defC 2 l.toArray)[j]!):=fun j hj=>by
   have h2:=flat_at l hj
   rw[←htk,List.getElem?_take_of_lt hj] at h2
   simpa using h2
  have hH:HoldsK defC 2 w g 0 l.toArray:=fun j hj=>by
   rw[size_flatK] at hj
   rw[Nat.zero_add]
   exact⟨cellOf hh (hcell j (by simpa using hj)),q4z hh⟩
  have eg:∀args w,(callFunc 78 args).run Tryz.prog w = .ok (.enter 78 args) w:=enters_of Tryz.func78 (by kernel_rfl) rfl
  refine(AnyQ.slices_SortFunc_total (ρ:=Tryz.sortf77_ren) Tryz.sortf77 2 aggDef sizeDef defC (fun _=>rfl) (fun x u hu=>by simp[defC] at hu; rcases hu with rfl | rfl <;> rfl) cmpD swoD 78 #[] g 0 cap l.toArray w eg (fun _ _ _ _ x y=>cmp_any x y _) hH (Array.getElem?_eq_some_iff.1 hh).1 (by simp; omega) totD).mono ?_
  rintro e w' ⟨rfl,n,os,rfl⟩
  have hmm:l.toArray.toList.mergeSort (fun x y=>!(ltOf cmpD) y x)=l.mergeSort leD:=rfl
  rw[hmm]
  obtain⟨M,hM⟩:=zx ((l.mergeSort leD))
  have hML:M.length=l.length:=by rw[←hM,List.length_mergeSort]
  rw[hM]
  have hgs:=(Array.getElem?_eq_some_iff.1 hh).1
  have hat:(sortWorldK defC 2 w g 0 n M.toArray os).heap[g]? = some (.cells (Sort.putCells id 0 (flatK defC 2 M.toArray) cur) 132 (0,0)):=by
   unfold sortWorldK putRowK Sort.grow Sort.putRow Sort.mapBlock Sort.ahead
   simp only
   rw[Array.getElem?_append_left (by simpa using hgs),Array.getElem?_modify,if_pos rfl,hh]
   rfl
  refine⟨rfl,⟨defC_len M,Or.inr ⟨g,cap,_,by rw[hML],hg,hat,by omega,hm,by simp[Sort.putCells,hcs],?_⟩⟩,⟨rfl,rfl,rfl,by unfold sortWorldK putRowK Sort.grow Sort.putRow Sort.mapBlock Sort.ahead; simp,fun k hk hne=>?_⟩⟩
  ·apply List.ext_getElem?
   intro j
   by_cases hj:j<M.length*2
   ·have hjc:j<cur.size:=by rw[hcs]; omega
    rw[List.getElem?_take_of_lt hj,flat_at M hj]
    simp[Sort.putCells,hjc,hj]
   ·rw[List.getElem?_eq_none (by rw[List.length_take]; omega),List.getElem?_eq_none (by rw[defC_len]; omega)]
  ·have hkg:g≠k:=fun e=>hne (by rw[e]; rfl)
   unfold sortWorldK putRowK Sort.grow Sort.putRow Sort.mapBlock Sort.ahead
   simp only
   rw[Array.getElem?_append_left (by simpa using hk),Array.getElem?_modify,if_neg hkg]
end
