/-
 Walks of layer 6: List.
-/
import Derived.Test.YtaphcmcimoloiaaGreatDoorSidA
namespace Go.Proofs.YtaphcmcimoloiaaGreatDoor
open Go Go.RowKit Txt Sp
namespace Sp
def listOf (s:ByteArray):List Int:=(List.range 32).map (fun i:Nat=>getN s (2*(i:Int)) 2)
def listC (g:Geom) (s:ByteArray):Int:=if g.ok then(if s.size=64∧∀b∈listOf s,q23z g b then 0 else 60) else 4
end Sp
def q110z (g:Sp.Geom) (s:ByteArray) (w:World) (e:Ending) (w':World):Prop:=
 ∃v,e = .returned (.tuple #[v,.int .i64 (listC g s)])∧OwnR 3 1 intC w.heap.size w' v (if listC g s=0 then listOf s else [])∧Below w.heap.size w w'
section
set_option maxHeartbeats 4000000
set_option maxRecDepth 20000 in
theorem ilist_any (w:World) (g:Sp.Geom) (s:ByteArray):Calls Tryz.prog 182 #[gV g,.string s] w (q110z g s w):=by
 have hch:=fun W:World=>q84z W g
 have hno:∀w' c,c≠0→listC g s=c→Below w.heap.size w w'→q110z g s w (.returned (.tuple #[.slice none 0 0,.int .i64 c])) w':=fun w' c h0 hc hb=>by
  refine⟨_,by rw[hc],?_,hb⟩
  rw[hc,if_neg h0]
  exact OwnR.void _ _
 by_cases hg:g.ok
 rotate_left
 ·rw[Geom.check_no hg] at hch
  have HN:=Lib.hid (fun w'=>hno w' 4 (by decide) (if_neg hg))
  obtain⟨Q,hQ⟩:∃Q,q110z g s w=Q:=⟨_,rfl⟩
  rw[hQ] at HN ⊢
  obtain⟨ga,gb,gc⟩:=g
  unfold gV at hch ⊢
  obtain⟨W0,hW0⟩:∃W,w.alloc (.cells #[.int .i64 ga,.int .i64 gb,.int .i64 gc] 27)=W:=⟨_,rfl⟩
  have hk:=q34z hW0
  have HB0:=Lib.hid hk.1
  have HK:=Lib.hid hk.2
  clear hk
  have HCH:=Lib.hid hch
  clear hch
  clear hno hg hQ
  obtain⟨z0,z1,z2⟩:=HK.out W0 (Below.refl _ _)
  go_enter Tryz.func182,Tryz.ntmps182
  go_wp2_with fail
  clear z0 z1 z2
  refine(HCH.out _).mono ?_
  rintro e w1 ⟨rfl,hb1⟩
  have HB1:=Lib.hid (blN HB0.out hb1)
  clear hb1
  go_wp2
  first | exact HN.out _ HB1.out | (go_ret2; exact HN.out _ HB1.out)
 rw[Geom.check_ok hg] at hch
 by_cases hs:s.size=64
 rotate_left
 ·have q1:((s.size:Int) != 64)=true:=bne_iff_ne.2 (by omega)
  have HN:=Lib.hid (fun w'=>hno w' 60 (by decide) (by unfold listC; rw[if_pos hg,if_neg (fun h=>hs h.1)]))
  obtain⟨Q,hQ⟩:∃Q,q110z g s w=Q:=⟨_,rfl⟩
  rw[hQ] at HN ⊢
  obtain⟨ga,gb,gc⟩:=g
  unfold gV at hch ⊢
  obtain⟨W0,hW0⟩:∃W,w.alloc (.cells #[.int .i64 ga,.int .i64 gb,.int .i64 gc] 27)=W:=⟨_,rfl⟩
  have hk:=q34z hW0
  have HB0:=Lib.hid hk.1
  have HK:=Lib.hid hk.2
  clear hk
  have HCH:=Lib.hid hch
  clear hch
  clear hno hg hQ hs
  obtain⟨z0,z1,z2⟩:=HK.out W0 (Below.refl _ _)
  go_enter Tryz.func182,Tryz.ntmps182
  go_wp2_with fail
  clear z0 z1 z2
  refine(HCH.out _).mono ?_
  rintro e w1 ⟨rfl,hb1⟩
  have HB1:=Lib.hid (blN HB0.out hb1)
  clear hb1
  go_wp2
  first | exact HN.out _ HB1.out | (go_ret2; exact HN.out _ HB1.out)
 have q1:((s.size:Int) != 64)=false:=bne_eq_false_iff_eq.2 (by omega)
 have hget:=fun(W:World) (i:Nat)=>fget_any W s (2*(i:Int)) 2
 have hgb:=fun i:Nat=>(show getC s (2*(i:Int)) 2=getC s (2*(i:Int)) 2 from rfl)
 have hbk:=fun(W:World) (v:Value) (hv:Ints W v (listOf s))=>iblocks_any W g v (listOf s) hv
 have hno2:∀w',¬(∀b∈listOf s,q23z g b)→Below w.heap.size w w'→q110z g s w (.returned (.tuple #[.slice none 0 0,.int .i64 60])) w':=fun w' h hb=>hno w' 60 (by decide) (by unfold listC; rw[if_pos hg,if_neg (fun hh=>h hh.2)]) hb
 have hyes:∀v w',(∀b∈listOf s,q23z g b)→OwnR 3 1 intC w.heap.size w' v (listOf s)→Below w.heap.size w w'→q110z g s w (.returned (.tuple #[v,.int .i64 0])) w':=fun v w' h hr hb=>by
  have hc:listC g s=0:=by unfold listC; rw[if_pos hg,if_pos ⟨hs,h⟩]
  exact⟨v,by rw[hc],by rw[hc,if_pos rfl]; exact hr,hb⟩
 obtain⟨d,hd⟩:∃d,decide (∀b∈listOf s,q23z g b)=d:=⟨_,rfl⟩
 have hdt:d=true→∀b∈listOf s,q23z g b:=fun h=>of_decide_eq_true (hd.trans h)
 have hdf:d=false→¬∀b∈listOf s,q23z g b:=fun h=>of_decide_eq_false (hd.trans h)
 rw[hd] at hbk
 have hstep:∀i:Nat,(List.range (i+1)).map (fun i:Nat=>getN s (2*(i:Int)) 2)=(List.range i).map (fun i:Nat=>getN s (2*(i:Int)) 2) ++ [getN s (2*(i:Int)) 2]:=fun i=>by rw[List.range_succ,List.map_append]; rfl
 have hll:∀i:Nat,((List.range i).map (fun i:Nat=>getN s (2*(i:Int)) 2)).length=i:=fun i=>by simp
 have hfull:(List.range 32).map (fun i:Nat=>getN s (2*(i:Int)) 2)=listOf s:=rfl
 obtain⟨PL,hPL⟩:∃PL:Nat→List Int,∀i,(List.range i).map (fun i:Nat=>getN s (2*(i:Int)) 2)=PL i:=⟨fun i=>(List.range i).map (fun i:Nat=>getN s (2*(i:Int)) 2),fun _=>rfl⟩
 have hPL0:PL 0=[]:=(hPL 0).symm
 simp only[hPL] at hstep hll hfull
 obtain⟨Q,hQ⟩:∃Q,q110z g s w=Q:=⟨_,rfl⟩
 rw[hQ] at hno2 hyes ⊢
 obtain⟨ga,gb,gc⟩:=g
 unfold gV at hch hbk ⊢
 obtain⟨W0,hW0⟩:∃W,w.alloc (.cells #[.int .i64 ga,.int .i64 gb,.int .i64 gc] 27)=W:=⟨_,rfl⟩
 have hk:=q34z hW0
 have HB0:=Lib.hid hk.1
 have HK:=Lib.hid hk.2
 clear hk
 have HCH:=Lib.hid hch
 have HGET:=Lib.hid hget
 have HBK:=Lib.hid hbk
 have HNO2:=Lib.hid hno2
 have HYES:=Lib.hid hyes
 have HDT:=Lib.hid hdt
 have HDF:=Lib.hid hdf
 have HSTEP:=Lib.hid hstep
 have HLL:=Lib.hid hll
 have HFULL:=Lib.hid hfull
 have HPL0:=Lib.hid hPL0
 clear hch hget hbk hno2 hyes hdt hdf hstep hll hfull hPL0
 clear hno hg hQ hs hd hgb hPL
 obtain⟨z0,z1,z2⟩:=HK.out W0 (Below.refl _ _)
 go_enter Tryz.func182,Tryz.ntmps182
 go_wp2_with fail
 clear z0 z1 z2
 refine(HCH.out _).mono ?_
 rintro e w1 ⟨rfl,hb1⟩
 have HB1:=Lib.hid hb1
 clear hb1
 go_wp2
 go_loopw [7,19] (fun out q wr=>∃i:Nat,i≤32∧q = .int .i64 (i:Int)∧Hid (OwnR 3 1 intC W0.heap.size wr out (PL i))∧Hid (Below W0.heap.size W0 wr)) (fun _ q _=>32-(intOf q).toNat)
 case atStart=>exact⟨0,by decide,rfl,by rw[HPL0.out]; exact OwnR.void _ _,HB1⟩
 case round=>
  obtain⟨i,hi,rfl,HO,HB⟩:=hrel
  by_cases hlt:i<32
  ·have e1:IntKind.i64.wrap (2*(i:Int))=2*(i:Int):=IntWalk.i64_in _ (by omega)
   have HG:=Lib.hid (HGET.out)
   have hSt:=HSTEP.out i
   obtain⟨x,hx⟩:∃x,getN s (2*(i:Int)) 2=x:=⟨_,rfl⟩
   obtain⟨y,hy⟩:∃x,getC s (2*(i:Int)) 2=x:=⟨_,rfl⟩
   have hg1:=fun W=>HGET.out W i
   rw[hx,hy] at hg1
   rw[hx] at hSt
   have HSt:=Lib.hid hSt
   have HG1:=Lib.hid hg1
   clear hg1
   clear hx hy HG hSt
   go_wp2_with fail
   refine(HG1.out _).mono ?_
   rintro e w5 ⟨rfl,hb5⟩
   have HB5:=Lib.hid (blN HB.out hb5)
   have HO5:=Lib.hid (OwnR.below HO.out hb5)
   have hll2:(PL i).length≤32:=by have:=HLL.out i; omega
   clear hb5
   go_upto_region 11 with fail
   obtain⟨ia6,ib6,ic6,id6,ie6⟩:=info_parts q69z
   have hrow6:=HO5.out
   unfold OwnR at hrow6
   have HRow6:=Lib.hid hrow6
   clear hrow6
   have HIb6:=Lib.hid ib6
   have HIc6:=Lib.hid ic6
   have HId6:=Lib.hid id6
   have HIe6:=Lib.hid ie6
   clear ib6 ic6 id6 ie6
   go_wp2_with (at_builtin; refine wpList_append_lies _ rfl _ _ _ rfl W0.heap.size 3 ia6 _ 1 8 Tryz.underlying48 HIb6.out HIc6.out HId6.out HIe6.out rfl (by decide) _ _ _ rfl (HRow6.out.alloc _) ⟨w5.heap.size,0,none⟩ 1 1 [.int .i64 x] rfl rfl (World.news_of_block (cs:=#[.int .i64 x]) (t:=3) (fr:=(0,0)) (q2z w5 _)) (by simp[Value.oneCell']) (by omega) ?c1 ?c2 ?c3 (w5.heap.size+1) (by simp) ?_)
   case c1=>unfold maxLen; omega
   case c2=>omega
   case c3=>have:=HB5.out.size; simp; omega
   intro g6 cap6 w6 hown6 hgrow6 hat6 hlt6
   have HO6:=Lib.hid (OwnR.snoc (f:=intC) (x:=x) hown6 rfl rfl)
   have HB6:Hid (Below W0.heap.size _ w6):=Below.grown (bl1 HB5.out _) hgrow6 (bl1 HB5.out _).size (fun q hq=>(HRow6.out.lt q hq).1)
   clear hown6 hgrow6 hat6 hlt6 HRow6
   go_wp2
   go_roundw
   case rel=>exact⟨i+1,by omega,by go_num,by rw[HSt.out]; exact HO6,HB6⟩
   case measure=>simp[intOf]; omega
  ·obtain rfl:i=32:=by omega
   have ho:=HO.out
   rw[HFULL.out] at ho
   have hb_:=HBK.out wr _ (OwnR.row (f:=intC) (fun _ _=>rfl) ho)
   have HO2:=Lib.hid ho
   have HB_:=Lib.hid hb_
   clear hb_
   obtain⟨z0,z1,z2⟩:=HK.out wr HB.out
   clear ho
   cases d with
   | true=>
     have HEnd:=Lib.hid (fun v w'=>HYES.out v w' (HDT.out rfl))
     have HSz:=Lib.hid HB0.out.size
     go_wp2_with fail
     clear z0 z1 z2
     refine HB_.out.mono ?_
     rintro e w6 ⟨rfl,hb6⟩
     have HB6:=Lib.hid (blN HB0.out (blN HB.out hb6))
     have HO6:=Lib.hid ((OwnR.below HO2.out hb6).mono HSz.out)
     clear hb6
     go_wp2
     first | exact HEnd.out _ _ HO6.out HB6.out | (go_ret2; exact HEnd.out _ _ HO6.out HB6.out)
   | false=>
     have HEnd:=Lib.hid (fun w'=>HNO2.out w' (HDF.out rfl))
     go_wp2_with fail
     clear z0 z1 z2
     refine HB_.out.mono ?_
     rintro e w6 ⟨rfl,hb6⟩
     have HB6:=Lib.hid (blN HB0.out (blN HB.out hb6))
     clear hb6
     go_wp2
     first | exact HEnd.out _ HB6.out | (go_ret2; exact HEnd.out _ HB6.out)
end
end Go.Proofs.YtaphcmcimoloiaaGreatDoor
namespace Go.Proofs.YtaphcmcimoloiaaGreatDoor
open Go Go.RowKit Txt Sp
def truV (b:Bool):Value:=.bool b
def truE (X:List Int):List (Int×Bool):=X.map fun n=>(n,true)
theorem getM_tru (X:List Int) (n:Int):IM.getM (truE X) n=if n∈X then some true else none:=by
 induction X with
 | nil=>rfl
 | cons x r ih=>
   unfold truE IM.getM at ih ⊢
   rw[List.map_cons,List.find?_cons]
   by_cases h:x=n
   ·subst h
    simp
   ·rw[decide_eq_false h]
    simp only[ih,List.mem_cons,Ne.symm h,false_or]
theorem setM_tru {X:List Int} {n:Int} (h:n∉X):IM.setM (truE X) n true=truE (X ++ [n]):=by
 unfold IM.setM
 rw[getM_tru,if_neg h]
 unfold truE
 rw[List.map_append]
 rfl
theorem setM_tru_in {X:List Int} {n:Int} (h:n∈X):IM.setM (truE X) n true=truE X:=by
 unfold IM.setM
 rw[getM_tru,if_pos h]
 unfold truE
 rw[if_pos (by rfl),List.map_map]
 refine List.map_congr_left (fun x _=>?_)
 show(if x=n then(n,true) else(x,true))=(x,true)
 split
 ·rename_i e; rw[e]
 ·rfl
theorem truE_length (X:List Int):(truE X).length=X.length:=by unfold truE; rw[List.length_map]
theorem truE_keys (X:List Int):(truE X).map Prod.fst=X:=by
 unfold truE
 rw[List.map_map]
 exact List.map_id X
section
variable {wr:World} {m:Nat} {X:List Int}
theorem tru_lookup (h:IM.MapAt truV wr m (truE X)) (n:Int):(Instr.lookup 199 (.map (some m)) (.int .i64 n) false).run Tryz.prog wr = .ok (.bool (decide (n∈X))) wr:=by
 have:=IM.run_lookup (P:=Tryz.prog) Tryz.underlying199 Tryz.underlying3 (z:=.bool false) (by kernel_rfl) h n
 rw[this,getM_tru]
 by_cases hn:n∈X
 ·rw[if_pos hn,decide_eq_true hn]; rfl
 ·rw[if_neg hn,decide_eq_false hn]; rfl
theorem tru_update (h:IM.MapAt truV wr m (truE X)) (n:Int) :
 ∃o',(Instr.mapUpdate 199 (.map (some m)) (.int .i64 n) (.bool true)).run Tryz.prog wr = .ok () (ChangeMaps.setBlock wr m o')∧IM.IsMap truV o' (truE (if n∈X then X else X ++ [n])):=by
 obtain⟨o,h1,h2⟩:=IM.run_update (P:=Tryz.prog) Tryz.underlying199 Tryz.underlying3 h n true
 refine⟨o,h1,?_⟩
 by_cases hn:n∈X
 ·rw[setM_tru_in hn] at h2
  rw[if_pos hn]
  exact h2
 ·rw[setM_tru hn] at h2
  rw[if_neg hn]
  exact h2
theorem q120z {w:World} {m:Nat} {o:Obj}:Turn (fun j=>j=m) w (ChangeMaps.setBlock w m o):=
 ⟨rfl,rfl,rfl,by rw[IM.size_setBlock]; exact Nat.le_refl _,fun k _ h=>IM.heap_setBlock_ne h⟩
theorem mapAt_turn {α:Type} {enc:α→Value} {K:Nat→Prop} {a b:World} {m:Nat} {l:List (Int×α)} (hT:Turn K a b) (h:IM.MapAt enc a m l) (hk:¬K m):IM.MapAt enc b m l:=by
 obtain⟨o,h1,h2⟩:=h
 exact⟨o,hT.heap h1 hk,h2⟩
end
theorem setCells_sets {b:Nat}:∀(vs:List Value) (o:Nat) (w:World),w.setCells b o vs=sets w b o vs
 | [],_,_=>rfl
 | v :: r,o,w=>setCells_sets r (o+1) (w.setCell ⟨b,o,none⟩ v)
theorem q159z {b:Nat}:∀(vs:List Value) (i:Nat) (w:World),Turn (fun j=>j=b) w (sets w b i vs)
 | [],_,_=>Turn.refl _ _
 | _ :: r,i,_=>q10z.trans (q159z r (i+1) _) (fun _ _ h=>h) (fun _ _ h=>h)
theorem chgs_length:∀l:List (Chg×Value),(l.flatMap chgC).length=l.length*6
 | []=>rfl
 | x :: r=>by
   rw[List.flatMap_cons,List.length_append,chgs_length r,List.length_cons]
   show 6+_=_
   omega
theorem chgs_take:∀(l:List (Chg×Value)) (i:Nat),(l.flatMap chgC).take (i*6)=(l.take i).flatMap chgC
 | [],i=>by simp
 | x :: r,0=>by simp
 | x :: r,i+1=>by
   rw[List.flatMap_cons,List.take_succ_cons,List.flatMap_cons,←chgs_take r i,show(i+1)*6=(chgC x).length+i*6 by show _=6+_; omega,List.take_length_add_append]
theorem chgs_drop:∀(l:List (Chg×Value)) (i:Nat),(l.flatMap chgC).drop (i*6)=(l.drop i).flatMap chgC
 | [],i=>by simp
 | x :: r,0=>by simp
 | x :: r,i+1=>by
   rw[List.flatMap_cons,List.drop_succ_cons,←chgs_drop r i,show(i+1)*6=(chgC x).length+i*6 by show _=6+_; omega,List.drop_length_add_append]
def RowG (w:World) (g cap:Nat) (R:List (Chg×Value)):Prop:=∃cur:Array Value,w.heap[g]? = some (.cells cur 217 (0,0))∧cur.size=cap*6∧R.length≤cap∧cur.toList.take (R.length*6)=R.flatMap chgC
section
variable {w w':World} {g cap:Nat} {R:List (Chg×Value)}
theorem RowG.below (h:RowG w g cap R) (hb:Below w.heap.size w w'):RowG w' g cap R:=by
 obtain⟨cur,h1,h2⟩:=h
 exact⟨cur,q1z hb h1,h2⟩
theorem RowG.cell (h:RowG w g cap R) {j:Nat} {x:Chg×Value} (hx:R[j]? = some x) {m:Nat} {y:Value} (hy:(chgC x)[m]? = some y):w.cell? ⟨g,j*6+m,none⟩=some y:=by
 obtain⟨cur,h1,h2,h3,h4⟩:=h
 have hj:=(List.getElem?_eq_some_iff.1 hx).1
 have hm:m<6:=(List.getElem?_eq_some_iff.1 hy).1
 refine cellOf h1 ?_
 have e1:cur.toList[j*6+m]? = (R.flatMap chgC)[j*6+m]?:=by rw[←h4,List.getElem?_take_of_lt (by omega)]
 have e2:(R.flatMap chgC)[j*6+m]? = ((R.drop j).flatMap chgC)[m]?:=by rw[←chgs_drop,List.getElem?_drop]
 rw[←Array.getElem?_toList,e1,e2,List.drop_eq_getElem_cons hj,List.flatMap_cons,(List.getElem?_eq_some_iff.1 hx).2,List.getElem?_append_left hm]
 exact hy
theorem RowG.free (h:RowG w g cap R) (k:Nat):w.frozen? ⟨g,k,none⟩=false:=by
 obtain⟨cur,h1,_⟩:=h
 exact q3z h1
theorem RowG.set (h:RowG w g cap R) {i:Nat} (hi:i<R.length) (x:Chg×Value):RowG (sets w g (i*6) (chgC x)) g cap (R.set i x):=by
 obtain⟨cur,h1,h2,h3,h4⟩:=h
 have h6:(chgC x).length=6:=rfl
 have hcl:cur.toList.length=cap*6:=by rw[Array.length_toList,h2]
 refine⟨_,q114z (chgC x) (i*6) w cur h1 (by rw[h6]; omega),?_,by rw[List.length_set]; exact h3,?_⟩
 ·rw[List.size_toArray,List.length_append,List.length_append,List.length_take,List.length_drop,hcl,h6]
  omega
 ·rw[List.length_set,List.set_eq_take_append_cons_drop,if_pos hi,List.flatMap_append,List.flatMap_cons,←chgs_take,←chgs_drop,←h4,List.append_assoc,List.take_append,List.take_append,h6]
  have e1:(cur.toList.take (i*6)).length=i*6:=by rw[List.length_take,hcl]; omega
  rw[e1,List.take_take,List.take_take,List.take_of_length_le (l:=chgC x) (by rw[h6]; omega),List.drop_take,show min (R.length*6) (i*6)=i*6 by omega,show min (i*6) (R.length*6)=i*6 by omega,show(i+1)*6=i*6+6 by omega,show R.length*6-i*6-6=R.length*6-(i*6+6) by omega]
theorem RowG.own (h:RowG w g cap R) {base:Nat} (hg:base≤g) (hc:cap≤maxLen) {i:Nat} (hi:i≤R.length):OwnR 217 6 chgC base w (.slice (some ⟨g,0,none⟩) i cap) (R.take i):=by
 obtain⟨cur,h1,h2,h3,h4⟩:=h
 have hl:(R.take i).length=i:=by rw[List.length_take]; omega
 refine⟨chgs_length _,Or.inr ⟨g,cap,cur,by rw[hl],hg,h1,by omega,hc,h2,?_⟩⟩
 rw[hl,←chgs_take,←h4,List.take_take,show min (i*6) (R.length*6)=i*6 by omega]
theorem RowG.tail (h:RowG w g cap R) {i:Nat} (hi:i≤R.length) {Z:List Value} (hZ:Z.length=(R.length-i)*6):RowG (sets w g (i*6) Z) g cap (R.take i):=by
 obtain⟨cur,h1,h2,h3,h4⟩:=h
 have hcl:cur.toList.length=cap*6:=by rw[Array.length_toList,h2]
 have hl:(R.take i).length=i:=by rw[List.length_take]; omega
 refine⟨_,q114z Z (i*6) w cur h1 (by rw[hZ]; omega),?_,by omega,?_⟩
 ·rw[List.size_toArray,List.length_append,List.length_append,List.length_take,List.length_drop,hcl,hZ]
  omega
 ·rw[hl,←chgs_take,←h4,List.append_assoc,List.take_append_of_le_length (by rw[List.length_take,hcl]; omega),List.take_take,List.take_take,show min (i*6) (i*6)=i*6 by omega,show min (i*6) (R.length*6)=i*6 by omega]
end
theorem OwnR.rowG {w:World} {base:Nat} {v:Value} {l:List (Chg×Value)} (h:OwnR 217 6 chgC base w v l) (h0:l≠[]):∃g cap,v = .slice (some ⟨g,0,none⟩) l.length cap∧base≤g∧cap≤maxLen∧RowG w g cap l:=by
 obtain⟨_,⟨rfl,hn⟩ | ⟨g,cap,cur,rfl,hg,hh,h1,h2,h3,h4⟩⟩:=h
 ·exact absurd (List.eq_nil_of_length_eq_zero hn) h0
 ·exact⟨g,cap,rfl,hg,h2,cur,hh,h3,h1,h4⟩
end Go.Proofs.YtaphcmcimoloiaaGreatDoor
