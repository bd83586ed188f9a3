/-
 Walks of layer 6: List.
-/
import Derived.Test.YtgofmnhfajmbfaaGreatDoorTk
import Derived.Test.YtgofmnhfajmbfaaGreatDoorSpJ
set_option maxRecDepth 20000
set_option maxHeartbeats 4000000
namespace Go.Proofs.YtgofmnhfajmbfaaGreatDoor
open Go Go.RowKit Txt Sp
namespace Sp
def listOf (s:ByteArray):List Int:=(List.range 32).map (fun i:Nat=>getN s (2*(i:Int)) 2)
def listC (g:Geom) (s:ByteArray):Int:=if g.ok then(if s.size=64∧∀b∈listOf s,q22z g b then 0 else 60) else 4
end Sp
def q116z (g:Sp.Geom) (s:ByteArray) (w:World) (e:Ending) (w':World):Prop:=
 ∃v,e = .returned (.tuple #[v,.int .i64 (listC g s)])∧OwnR 3 1 intC w.heap.size w' v (if listC g s=0 then listOf s else [])∧Below w.heap.size w w'
section
theorem ilist_any (w:World) (g:Sp.Geom) (s:ByteArray):Calls Tryz.prog 241 #[gV g,.string s] w (q116z g s w):=by
 have hch:=fun W:World=>q85z W g
 have hno:∀w' c,c≠0→listC g s=c→Below w.heap.size w w'→q116z g s w (.returned (.tuple #[.slice none 0 0,.int .i64 c])) w':=fun w' c h0 hc hb=>by
  refine⟨_,by rw[hc],?_,hb⟩
  rw[hc,if_neg h0]
  exact OwnR.void _ _
 by_cases hg:g.ok
 rotate_left
 ·rw[Geom.check_no hg] at hch
  have HN:=zh (fun w'=>hno w' 4 (by decide) (if_neg hg))
  obtain⟨Q,hQ⟩:=zx (q116z g s w)
  rw[hQ] at HN ⊢
  obtain⟨ga,gb,gc⟩:=g
  unfold gV at hch ⊢
  obtain⟨W0,hW0⟩:=zg w ga gb gc
  have hk:=q30z hW0
  have HB0:=zh hk.1
  have HK:=zh hk.2
  clear hk
  have HCH:=zh hch
  clear hch
  clear hno hg hQ
  obtain⟨z0,z1,z2⟩:=HK.out W0 (Below.refl _ _)
  go_enter Tryz.func241,Tryz.ntmps241
  go_wp2_with fail
  clear z0 z1 z2
  refine(HCH.out _).mono ?_
  rintro e w1 ⟨rfl,hb1⟩
  have HB1:=zh (blN HB0.out hb1)
  clear hb1
  go_wp2
  first | exact HN.out _ HB1.out | (go_ret2; exact HN.out _ HB1.out)
 rw[Geom.check_ok hg] at hch
 by_cases hs:s.size=64
 rotate_left
 ·have q1:((s.size:Int) != 64)=true:=bne_iff_ne.2 (by omega)
  have HN:=zh (fun w'=>hno w' 60 (by decide) (by unfold listC; rw[if_pos hg,if_neg (fun h=>hs h.1)]))
  obtain⟨Q,hQ⟩:=zx (q116z g s w)
  rw[hQ] at HN ⊢
  obtain⟨ga,gb,gc⟩:=g
  unfold gV at hch ⊢
  obtain⟨W0,hW0⟩:=zg w ga gb gc
  have hk:=q30z hW0
  have HB0:=zh hk.1
  have HK:=zh hk.2
  clear hk
  have HCH:=zh hch
  clear hch
  clear hno hg hQ hs
  obtain⟨z0,z1,z2⟩:=HK.out W0 (Below.refl _ _)
  go_enter Tryz.func241,Tryz.ntmps241
  go_wp2_with fail
  clear z0 z1 z2
  refine(HCH.out _).mono ?_
  rintro e w1 ⟨rfl,hb1⟩
  have HB1:=zh (blN HB0.out hb1)
  clear hb1
  go_wp2
  first | exact HN.out _ HB1.out | (go_ret2; exact HN.out _ HB1.out)
 have q1:((s.size:Int) != 64)=false:=bne_eq_false_iff_eq.2 (by omega)
 have hget:=fun(W:World) (i:Nat)=>fget_any W s (2*(i:Int)) 2
 have hgb:=fun i:Nat=>(show getC s (2*(i:Int)) 2=getC s (2*(i:Int)) 2 from rfl)
 have hbk:=fun(W:World) (v:Value) (hv:Ints W v (listOf s))=>iblocks_any W g v (listOf s) hv
 have hno2:∀w',¬(∀b∈listOf s,q22z g b)→Below w.heap.size w w'→q116z g s w (.returned (.tuple #[.slice none 0 0,.int .i64 60])) w':=fun w' h hb=>hno w' 60 (by decide) (by unfold listC; rw[if_pos hg,if_neg (fun hh=>h hh.2)]) hb
 have hyes:∀v w',(∀b∈listOf s,q22z g b)→OwnR 3 1 intC w.heap.size w' v (listOf s)→Below w.heap.size w w'→q116z g s w (.returned (.tuple #[v,.int .i64 0])) w':=fun v w' h hr hb=>by
  have hc:listC g s=0:=by unfold listC; rw[if_pos hg,if_pos ⟨hs,h⟩]
  exact⟨v,by rw[hc],by rw[hc,if_pos rfl]; exact hr,hb⟩
 obtain⟨d,hd⟩:=zx (decide (∀b∈listOf s,q22z g b))
 have hdt:d=true→∀b∈listOf s,q22z g b:=fun h=>of_decide_eq_true (hd.trans h)
 have hdf:d=false→¬∀b∈listOf s,q22z g b:=fun h=>of_decide_eq_false (hd.trans h)
 rw[hd] at hbk
 have hstep:∀i:Nat,(List.range (i+1)).map (fun i:Nat=>getN s (2*(i:Int)) 2)=(List.range i).map (fun i:Nat=>getN s (2*(i:Int)) 2) ++ [getN s (2*(i:Int)) 2]:=fun i=>by rw[List.range_succ,List.map_append]; rfl
 have hll:∀i:Nat,((List.range i).map (fun i:Nat=>getN s (2*(i:Int)) 2)).length=i:=fun i=>by simp
 have hfull:(List.range 32).map (fun i:Nat=>getN s (2*(i:Int)) 2)=listOf s:=rfl
 obtain⟨PL,hPL⟩:∃PL:Nat→List Int,∀i,(List.range i).map (fun i:Nat=>getN s (2*(i:Int)) 2)=PL i:=⟨fun i=>(List.range i).map (fun i:Nat=>getN s (2*(i:Int)) 2),fun _=>rfl⟩
 have hPL0:PL 0=[]:=(hPL 0).symm
 simp only[hPL] at hstep hll hfull
 obtain⟨Q,hQ⟩:=zx (q116z g s w)
 rw[hQ] at hno2 hyes ⊢
 obtain⟨ga,gb,gc⟩:=g
 unfold gV at hch hbk ⊢
 obtain⟨W0,hW0⟩:=zg w ga gb gc
 have hk:=q30z hW0
 have HB0:=zh hk.1
 have HK:=zh hk.2
 clear hk
 have HCH:=zh hch
 have HGET:=zh hget
 have HBK:=zh hbk
 have HNO2:=zh hno2
 have HYES:=zh hyes
 have HDT:=zh hdt
 have HDF:=zh hdf
 have HSTEP:=zh hstep
 have HLL:=zh hll
 have HFULL:=zh hfull
 have HPL0:=zh hPL0
 clear hch hget hbk hno2 hyes hdt hdf hstep hll hfull hPL0
 clear hno hg hQ hs hd hgb hPL
 obtain⟨z0,z1,z2⟩:=HK.out W0 (Below.refl _ _)
 go_enter Tryz.func241,Tryz.ntmps241
 go_wp2_with fail
 clear z0 z1 z2
 refine(HCH.out _).mono ?_
 rintro e w1 ⟨rfl,hb1⟩
 have HB1:=zh hb1
 clear hb1
 go_wp2
 go_loopw [7,19] (fun out q wr=>∃i:Nat,i≤32∧q = .int .i64 (i:Int)∧Hid (OwnR 3 1 intC W0.heap.size wr out (PL i))∧Hid (Below W0.heap.size W0 wr)) (fun _ q _=>32-(intOf q).toNat)
 case atStart=>exact⟨0,by decide,rfl,by rw[HPL0.out]; exact OwnR.void _ _,HB1⟩
 case round=>
  obtain⟨i,hi,rfl,HO,HB⟩:=hrel
  by_cases hlt:i<32
  ·have e1:IntKind.i64.wrap (2*(i:Int))=2*(i:Int):=IntWalk.i64_in _ (by omega)
   have HG:=zh (HGET.out)
   have hSt:=HSTEP.out i
   obtain⟨x,hx⟩:=zx (getN s (2*(i:Int)) 2)
   obtain⟨y,hy⟩:=zx (getC s (2*(i:Int)) 2)
   have hg1:=fun W=>HGET.out W i
   rw[hx,hy] at hg1
   rw[hx] at hSt
   have HSt:=zh hSt
   have HG1:=zh hg1
   clear hg1
   clear hx hy HG hSt
   go_wp2_with fail
   refine(HG1.out _).mono ?_
   rintro e w5 ⟨rfl,hb5⟩
   have HB5:=zh (blN HB.out hb5)
   have HO5:=zh (OwnR.below HO.out hb5)
   have hll2:(PL i).length≤32:=by have:=HLL.out i; omega
   clear hb5
   go_upto_region 11 with fail
   obtain⟨ia6,ib6,ic6,id6,ie6⟩:=info_parts q81z
   have hrow6:=HO5.out
   unfold OwnR at hrow6
   have HRow6:=zh hrow6
   clear hrow6
   have HIb6:=zh ib6
   have HIc6:=zh ic6
   have HId6:=zh id6
   have HIe6:=zh ie6
   clear ib6 ic6 id6 ie6
   go_wp2_with (at_builtin; refine wpList_append_lies _ rfl _ _ _ rfl W0.heap.size 3 ia6 _ 1 8 Tryz.underlying58 HIb6.out HIc6.out HId6.out HIe6.out rfl (by decide) _ _ _ rfl (HRow6.out.alloc _) ⟨w5.heap.size,0,none⟩ 1 1 [.int .i64 x] rfl rfl (World.news_of_block (cs:=#[.int .i64 x]) (t:=3) (fr:=(0,0)) (heapNew w5 _)) (by simp[Value.oneCell']) (by omega) ?c1 ?c2 ?c3 (w5.heap.size+1) (by simp) ?_)
   case c1=>unfold maxLen; omega
   case c2=>omega
   case c3=>have:=HB5.out.size; first | (simp; done) | (simp; omega)
   intro g6 cap6 w6 hown6 hgrow6 hat6 hlt6
   have HO6:=zh (OwnR.snoc (f:=intC) (x:=x) hown6 rfl rfl)
   have HB6:Hid (Below W0.heap.size _ w6):=Below.grown (bl1 HB5.out _) hgrow6 (bl1 HB5.out _).size (fun q hq=>(HRow6.out.lt q hq).1)
   clear hown6 hgrow6 hat6 hlt6 HRow6
   go_wp2
   go_roundw
   case rel=>exact⟨i+1,by omega,by go_num,by rw[HSt.out]; exact HO6,HB6⟩
   case measure=>simp[intOf]; omega
  ·obtain rfl:i=32:=by omega
   have ho:=HO.out
   rw[HFULL.out] at ho
   have hb_:=HBK.out wr _ (OwnR.row (f:=intC) (fun _ _=>rfl) ho)
   have HO2:=zh ho
   have HB_:=zh hb_
   clear hb_
   obtain⟨z0,z1,z2⟩:=HK.out wr HB.out
   clear ho
   cases d with
   | true=>
     have HEnd:=zh (fun v w'=>HYES.out v w' (HDT.out rfl))
     have HSz:=zh HB0.out.size
     go_wp2_with fail
     clear z0 z1 z2
     refine HB_.out.mono ?_
     rintro e w6 ⟨rfl,hb6⟩
     have HB6:=zh (blN HB0.out (blN HB.out hb6))
     have HO6:=zh ((OwnR.below HO2.out hb6).mono HSz.out)
     clear hb6
     go_wp2
     first | exact HEnd.out _ _ HO6.out HB6.out | (go_ret2; exact HEnd.out _ _ HO6.out HB6.out)
   | false=>
     have HEnd:=zh (fun w'=>HNO2.out w' (HDF.out rfl))
     go_wp2_with fail
     clear z0 z1 z2
     refine HB_.out.mono ?_
     rintro e w6 ⟨rfl,hb6⟩
     have HB6:=zh (blN HB0.out (blN HB.out hb6))
     clear hb6
     go_wp2
     first | exact HEnd.out _ HB6.out | (go_ret2; exact HEnd.out _ HB6.out)
end
end Go.Proofs.YtgofmnhfajmbfaaGreatDoor
namespace Go.Proofs.YtgofmnhfajmbfaaGreatDoor
open Go Go.RowKit Txt Sp
def truV (b:Bool):Value:=.bool b
def truE (X:List Int):List (Int×Bool):=X.map fun n=>(n,true)
theorem getM_tru (X:List Int) (n:Int):IM.getM (truE X) n=if n∈X then some true else none:=by
 induction X with
 | nil=>rfl
 | cons x r ih=>
   unfold truE IM.getM at ih ⊢
   rw[List.map_cons,List.find?_cons]
   by_cases h:x=n
   ·subst h
    simp
   ·rw[decide_eq_false h]
    simp only[ih,List.mem_cons,Ne.symm h,false_or]
theorem setM_tru {X:List Int} {n:Int} (h:n∉X):IM.setM (truE X) n true=truE (X ++ [n]):=by
 unfold IM.setM
 rw[getM_tru,if_neg h]
 unfold truE
 rw[List.map_append]
 rfl
theorem setM_tru_in {X:List Int} {n:Int} (h:n∈X):IM.setM (truE X) n true=truE X:=by
 unfold IM.setM
 rw[getM_tru,if_pos h]
 unfold truE
 rw[if_pos (by rfl),List.map_map]
 refine List.map_congr_left (fun x _=>?_)
 show(if x=n then(n,true) else(x,true))=(x,true)
 split
 ·rename_i e; rw[e]
 ·rfl
theorem truE_length (X:List Int):(truE X).length=X.length:=by unfold truE; rw[List.length_map]
theorem truE_keys (X:List Int):(truE X).map Prod.fst=X:=by
 unfold truE
 rw[List.map_map]
 exact List.map_id X
section
variable {wr:World} {m:Nat} {X:List Int}
theorem tru_lookup (h:IM.MapAt truV wr m (truE X)) (n:Int):(Instr.lookup 138 (.map (some m)) (.int .i64 n) false).run Tryz.prog wr = .ok (.bool (decide (n∈X))) wr:=by
 have:=IM.run_lookup (P:=Tryz.prog) Tryz.underlying138 Tryz.underlying3 (z:=.bool false) (by kernel_rfl) h n
 rw[this,getM_tru]
 by_cases hn:n∈X
 ·rw[if_pos hn,decide_eq_true hn]; rfl
 ·rw[if_neg hn,decide_eq_false hn]; rfl
theorem tru_update (h:IM.MapAt truV wr m (truE X)) (n:Int) :
 ∃o',(Instr.mapUpdate 138 (.map (some m)) (.int .i64 n) (.bool true)).run Tryz.prog wr = .ok () (ChangeMaps.setBlock wr m o')∧IM.IsMap truV o' (truE (if n∈X then X else X ++ [n])):=by
 obtain⟨o,h1,h2⟩:=IM.run_update (P:=Tryz.prog) Tryz.underlying138 Tryz.underlying3 h n true
 refine⟨o,h1,?_⟩
 by_cases hn:n∈X
 ·rw[setM_tru_in hn] at h2
  rw[if_pos hn]
  exact h2
 ·rw[setM_tru hn] at h2
  rw[if_neg hn]
  exact h2
theorem q98z {w:World} {m:Nat} {o:Obj}:Turn (fun j=>j=m) w (ChangeMaps.setBlock w m o):=
 ⟨rfl,rfl,rfl,by rw[IM.size_setBlock]; exact Nat.le_refl _,fun k _ h=>IM.heap_setBlock_ne h⟩
theorem mapAt_turn {α:Type} {enc:α→Value} {K:Nat→Prop} {a b:World} {m:Nat} {l:List (Int×α)} (hT:Turn K a b) (h:IM.MapAt enc a m l) (hk:¬K m):IM.MapAt enc b m l:=by
 obtain⟨o,h1,h2⟩:=h
 exact⟨o,hT.heap h1 hk,h2⟩
end
theorem setCells_sets {b:Nat}:∀(vs:List Value) (o:Nat) (w:World),w.setCells b o vs=sets w b o vs
 | [],_,_=>rfl
 | v :: r,o,w=>setCells_sets r (o+1) (w.setCell ⟨b,o,none⟩ v)
theorem q166z {b:Nat}:∀(vs:List Value) (i:Nat) (w:World),Turn (fun j=>j=b) w (sets w b i vs)
 | [],_,_=>Turn.refl _ _
 | _ :: r,i,_=>q14z.trans (q166z r (i+1) _) (fun _ _ h=>h) (fun _ _ h=>h)
theorem chgs_length:∀l:List (Chg×Value),(l.flatMap chgC).length=l.length*6
 | []=>rfl
 | x :: r=>by
   rw[List.flatMap_cons,List.length_append,chgs_length r,List.length_cons]
   show 6+_=_
   omega
theorem chgs_take:∀(l:List (Chg×Value)) (i:Nat),(l.flatMap chgC).take (i*6)=(l.take i).flatMap chgC
 | [],i=>by simp
 | x :: r,0=>by simp
 | x :: r,i+1=>by
   rw[List.flatMap_cons,List.take_succ_cons,List.flatMap_cons,←chgs_take r i,show(i+1)*6=(chgC x).length+i*6 by show _=6+_; omega,List.take_length_add_append]
theorem chgs_drop:∀(l:List (Chg×Value)) (i:Nat),(l.flatMap chgC).drop (i*6)=(l.drop i).flatMap chgC
 | [],i=>by simp
 | x :: r,0=>by simp
 | x :: r,i+1=>by
   rw[List.flatMap_cons,List.drop_succ_cons,←chgs_drop r i,show(i+1)*6=(chgC x).length+i*6 by show _=6+_; omega,List.drop_length_add_append]
def RowG (w:World) (g cap:Nat) (R:List (Chg×Value)):Prop:=∃cur:Array Value,w.heap[g]? = some (.cells cur 209 (0,0))∧cur.size=cap*6∧R.length≤cap∧cur.toList.take (R.length*6)=R.flatMap chgC
section
variable {w w':World} {g cap:Nat} {R:List (Chg×Value)}
theorem RowG.below (h:RowG w g cap R) (hb:Below w.heap.size w w'):RowG w' g cap R:=by
 obtain⟨cur,h1,h2⟩:=h
 exact⟨cur,heapOld hb h1,h2⟩
theorem RowG.cell (h:RowG w g cap R) {j:Nat} {x:Chg×Value} (hx:R[j]? = some x) {m:Nat} {y:Value} (hy:(chgC x)[m]? = some y):w.cell? ⟨g,j*6+m,none⟩=some y:=by
 obtain⟨cur,h1,h2,h3,h4⟩:=h
 have hj:=(List.getElem?_eq_some_iff.1 hx).1
 have hm:m<6:=(List.getElem?_eq_some_iff.1 hy).1
 refine cellOf h1 ?_
 have e1:cur.toList[j*6+m]? = (R.flatMap chgC)[j*6+m]?:=by rw[←h4,List.getElem?_take_of_lt (by omega)]
 have e2:(R.flatMap chgC)[j*6+m]? = ((R.drop j).flatMap chgC)[m]?:=by rw[←chgs_drop,List.getElem?_drop]
 rw[←Array.getElem?_toList,e1,e2,List.drop_eq_getElem_cons hj,List.flatMap_cons,(List.getElem?_eq_some_iff.1 hx).2,List.getElem?_append_left hm]
 exact hy
theorem RowG.free (h:RowG w g cap R) (k:Nat):w.frozen? ⟨g,k,none⟩=false:=by
 obtain⟨cur,h1,_⟩:=h
 exact q4z h1
theorem RowG.set (h:RowG w g cap R) {i:Nat} (hi:i<R.length) (x:Chg×Value):RowG (sets w g (i*6) (chgC x)) g cap (R.set i x):=by
 obtain⟨cur,h1,h2,h3,h4⟩:=h
 have h6:(chgC x).length=6:=rfl
 have hcl:cur.toList.length=cap*6:=by rw[Array.length_toList,h2]
 refine⟨_,q142z (chgC x) (i*6) w cur h1 (by rw[h6]; omega),?_,by rw[List.length_set]; exact h3,?_⟩
 ·rw[List.size_toArray,List.length_append,List.length_append,List.length_take,List.length_drop,hcl,h6]
  omega
 ·rw[List.length_set,List.set_eq_take_append_cons_drop,if_pos hi,List.flatMap_append,List.flatMap_cons,←chgs_take,←chgs_drop,←h4,List.append_assoc,List.take_append,List.take_append,h6]
  have e1:(cur.toList.take (i*6)).length=i*6:=by rw[List.length_take,hcl]; omega
  rw[e1,List.take_take,List.take_take,List.take_of_length_le (l:=chgC x) (by rw[h6]; omega),List.drop_take,show min (R.length*6) (i*6)=i*6 by omega,show min (i*6) (R.length*6)=i*6 by omega,show(i+1)*6=i*6+6 by omega,show R.length*6-i*6-6=R.length*6-(i*6+6) by omega]
theorem RowG.own (h:RowG w g cap R) {base:Nat} (hg:base≤g) (hc:cap≤maxLen) {i:Nat} (hi:i≤R.length):OwnR 209 6 chgC base w (.slice (some ⟨g,0,none⟩) i cap) (R.take i):=by
 obtain⟨cur,h1,h2,h3,h4⟩:=h
 have hl:(R.take i).length=i:=by rw[List.length_take]; omega
 refine⟨chgs_length _,Or.inr ⟨g,cap,cur,by rw[hl],hg,h1,by omega,hc,h2,?_⟩⟩
 rw[hl,←chgs_take,←h4,List.take_take,show min (i*6) (R.length*6)=i*6 by omega]
theorem RowG.tail (h:RowG w g cap R) {i:Nat} (hi:i≤R.length) {Z:List Value} (hZ:Z.length=(R.length-i)*6):RowG (sets w g (i*6) Z) g cap (R.take i):=by
 obtain⟨cur,h1,h2,h3,h4⟩:=h
 have hcl:cur.toList.length=cap*6:=by rw[Array.length_toList,h2]
 have hl:(R.take i).length=i:=by rw[List.length_take]; omega
 refine⟨_,q142z Z (i*6) w cur h1 (by rw[hZ]; omega),?_,by omega,?_⟩
 ·rw[List.size_toArray,List.length_append,List.length_append,List.length_take,List.length_drop,hcl,hZ]
  omega
 ·rw[hl,←chgs_take,←h4,List.append_assoc,List.take_append_of_le_length (by rw[List.length_take,hcl]; omega),List.take_take,List.take_take,show min (i*6) (i*6)=i*6 by omega,show min (i*6) (R.length*6)=i*6 by omega]
end
theorem OwnR.rowG {w:World} {base:Nat} {v:Value} {l:List (Chg×Value)} (h:OwnR 209 6 chgC base w v l) (h0:l≠[]):∃g cap,v = .slice (some ⟨g,0,none⟩) l.length cap∧base≤g∧cap≤maxLen∧RowG w g cap l:=by
 obtain⟨_,⟨rfl,hn⟩ | ⟨g,cap,cur,rfl,hg,hh,h1,h2,h3,h4⟩⟩:=h
 ·exact absurd (List.eq_nil_of_length_eq_zero hn) h0
 ·exact⟨g,cap,rfl,hg,h2,cur,hh,h3,h1,h4⟩
section
theorem superPasses_any (w:World):Calls Tryz.prog 237 #[.string (wallB 0 0),.int .i64 0,.int .i64 0] w fun e w'=>e = .returned (.tuple #[.bool true,.int .i64 0])∧Below w.heap.size w w':=by
 have hep:=sepochs_any w (wallB 0 0)
 unfold EpochsPost at hep
 rw[if_pos (show q78z (wallB 0 0) by decide +kernel),if_pos (show q78z (wallB 0 0) by decide +kernel),if_pos (show q78z (wallB 0 0) by decide +kernel),show numAt (wallB 0 0) 4 4=0 by decide +kernel,show numAt (wallB 0 0) 8 4=0 by decide +kernel] at hep
 obtain⟨s,hs⟩:=zx (wallB 0 0)
 rw[hs] at hep ⊢
 have HEP:=zh hep
 clear hep
 clear hs
 go_enter Tryz.func237,Tryz.ntmps237
 go_wp2_with fail
 refine HEP.out.mono ?_
 rintro e w1 ⟨rfl,hb1⟩
 have HB1:=zh hb1
 clear hb1
 go_wp2
 go_ret2
 exact⟨rfl,bl1 HB1.out _⟩
theorem diskPasses_any {w:World} {base B:Nat} {d:Sp.Disk} {D:Nat→Prop} (h:DiskAt w base B d D) (hf:d.l[1]? = some (wallB 0 0)) :
 Calls Tryz.prog 170 #[pt B,.int .i64 0,.int .i64 0] w fun e w'=>e = .returned (.bool true)∧Below w.heap.size w w':=by
 obtain⟨ad,n,cap,c0,HN,hn,HF⟩:=h.open
 have hl1:1<n:=by rw[HN.out]; exact(List.getElem?_eq_some_iff.1 hf).1
 obtain⟨b,o,s,rfl,hb,hx,hc⟩:=HF.out 1 hl1
 rw[hf] at hx
 have hs:s=wallB 0 0:=(Option.some.inj hx).symm
 have hp:=fun W:World=>superPasses_any W
 rw[←hs] at hp
 have i1:(1:Int)<(n:Int):=by omega
 unfold pt
 have HP:=zh hp
 clear hp
 clear hf hx hs h hb
 go_enter Tryz.func170,Tryz.ntmps170
 go_wp2_with fail
 refine(HP.out _).mono ?_
 rintro e w1 ⟨rfl,hb1⟩
 have HB1:=zh hb1
 clear hb1
 go_wp2
 go_ret
 exact⟨rfl,HB1.out⟩
def DskK (w:World) (K:Nat→Prop):Prop:=∀j,K j→(∃cs fr e,w.heap[j]? = some (.cells cs e fr)∧(e=198∨e=9))∨∃es cl,w.heap[j]? = some (.map es cl)
def q20z (w:World) (D:Nat→Prop) (w':World):Prop:=∃K,(∀j,K j→D j)∧DskK w K∧Turn K w w'
theorem q20z.of_below {w w':World} {D:Nat→Prop} (h:Below w.heap.size w w'):q20z w D w':=⟨fun _=>False,fun _ h=>h.elim,fun _ h=>h.elim,Turn.of_below h⟩
theorem q20z.trans {a b c:World} {D:Nat→Prop} (hD:∀j,D j→j<a.heap.size) (h:q20z a D b) (k:q20z b D c):q20z a D c:=by
 obtain⟨K1,d1,c1,t1⟩:=h
 obtain⟨K2,d2,c2,t2⟩:=k
 refine⟨fun j=>K1 j∨K2 j,fun j hj=>hj.elim (d1 j) (d2 j),fun j hj=>?_,t1.trans t2 (fun _ _ h=>Or.inl h) (fun _ _ h=>Or.inr h)⟩
 by_cases h1:K1 j
 ·exact c1 j h1
 ·have h2:=hj.resolve_left h1
  have he:=t1.block j (hD j (d2 j h2)) h1
  rcases c2 j h2 with ⟨cs,fr,e,hc,ht⟩ | ⟨es,cl,hc⟩
  ·exact Or.inl ⟨cs,fr,e,he.symm.trans hc,ht⟩
  ·exact Or.inr ⟨es,cl,he.symm.trans hc⟩
theorem q20z.size {w w':World} {D:Nat→Prop} (h:q20z w D w'):w.heap.size≤w'.heap.size:=by
 obtain⟨K,_,_,hT⟩:=h
 exact hT.size
theorem DiskAt.lastSet {w:World} {base B:Nat} {d:Sp.Disk} {D:Nat→Prop} (h:DiskAt w base B d D) (n:Nat):DiskAt (w.setCell ⟨B,2,none⟩ (.int .i64 (n:Int))) base B ⟨d.l,d.waits,n⟩ D∧q20z w D (w.setCell ⟨B,2,none⟩ (.int .i64 (n:Int))):=by
 obtain⟨⟨v,wm,h1,h2,⟨o,h3,h3'⟩,h4,h5,h6⟩,ho,hl⟩:=h
 have hT:Turn (fun j=>j=B) w (w.setCell ⟨B,2,none⟩ (.int .i64 (n:Int))):=q14z
 refine⟨⟨⟨v,wm,q13z (k:=2) h1 _,h2.turn hT (fun k hk e=>?_),⟨o,hT.heap h3 (fun e=>?_),h3'⟩,h4,h5,h6⟩,ho,hl⟩,fun j=>j=B,fun j e=>e ▸ ho,fun j e=>by
  obtain rfl:j=B:=e
  exact Or.inl ⟨_,_,_,h1,Or.inl rfl⟩,hT⟩
 ·obtain⟨_,⟨rfl,_⟩ | ⟨g,cap,cur,rfl,hg,hh,_⟩⟩:=h2
  ·cases hk
  ·cases hk
   have e:g=B:=e
   rw[e,h1] at hh
   unfold diskO at hh
   cases hh
 ·have e:wm=B:=e
  obtain⟨es,cl,rfl,_⟩:=h3'
  rw[e,h1] at h3
  unfold diskO at h3
  cases h3
theorem DiskAt.waitsSet {w:World} {base B:Nat} {d:Sp.Disk} {D:Nat→Prop} (h:DiskAt w base B d D) {l:List (Int×Wr)}:∃wm,w.cell? ⟨B,1,none⟩=some (.map (some wm))∧IM.MapAt wrV w wm d.waits∧D wm∧B≠wm ∧
 ∀o',IM.IsMap wrV o' l→DiskAt (ChangeMaps.setBlock w wm o') base B ⟨d.l,l,d.last⟩ D∧q20z w D (ChangeMaps.setBlock w wm o'):=by
 obtain⟨⟨v,wm,h1,h2,⟨o,h3,h3'⟩,h4,h5,h6⟩,ho,hl⟩:=h
 have hne:B≠wm:=fun e=>by
  obtain⟨es,cl,rfl,_⟩:=h3'
  rw[←e,h1] at h3
  unfold diskO at h3
  cases h3
 refine⟨wm,zc 1 h1,⟨o,h3,h3'⟩,h5,hne,fun o' ho'=>?_⟩
 have hT:Turn (fun j=>j=wm) w (ChangeMaps.setBlock w wm o'):=q98z
 have hlt:wm<w.heap.size:=(Array.getElem?_eq_some_iff.1 h3).1
 refine⟨⟨⟨v,wm,hT.heap h1 hne,h2.turn hT (fun k hk e=>?_),⟨o',IM.heap_setBlock_at hlt,ho'⟩,h4,h5,h6⟩,ho,hl⟩,fun j=>j=wm,fun j e=>e ▸ h5,fun j e=>?_,hT⟩
 ·obtain⟨_,⟨rfl,_⟩ | ⟨g,cap,cur,rfl,hg,hh,_⟩⟩:=h2
  ·cases hk
  ·cases hk
   have e:g=wm:=e
   obtain⟨es,cl,rfl,_⟩:=h3'
   rw[e,h3] at hh
   cases hh
 ·obtain rfl:j=wm:=e
  obtain⟨es,cl,rfl,_⟩:=h3'
  exact Or.inr ⟨es,cl,h3⟩
theorem issuer_any (w:World):Calls Tryz.prog 274 #[.int .i64 0,.int .i64 0] w fun e w'=>e = .returned (.int .i64 0)∧w' = w:=by
 go_enter Tryz.func274,Tryz.ntmps274
 go_wp2
 go_ret
 exact⟨rfl,rfl⟩
def toldW (d:Sp.Disk) (i:Int) (s:ByteArray):Sp.Disk:=⟨d.l,d.waits ++ [(((d.last+1:Nat):Int),⟨0,0,i,s⟩)],d.last+1⟩
theorem diskIssue_any {w:World} {base B:Nat} {d:Sp.Disk} {D:Nat→Prop} (h:DiskAt w base B d D) (hD:∀j,D j→j<w.heap.size) (hf:d.l[1]? = some (wallB 0 0)) (hfew:d.waits.length<1024) (hlast:d.last<1000000000) (hkeys:∀x∈d.waits,x.1≤(d.last:Int)) (i:Int) (hi:d.has i) (s:ByteArray) (hs:s.size=64) :
 Calls Tryz.prog 235 #[pt B,.int .i64 0,.int .i64 0,.int .i64 i,.string s] w fun e w'=>e = .returned (.tuple #[.int .i64 ((d.last+1:Nat):Int),.int .i64 0])∧DiskAt w' base B (toldW d i s) D∧q20z w D w':=by
 have his:=fun W:World=>issuer_any W
 have hwr:=diskWrong_any h i s
 have hc:d.layC i s=0:=by unfold Sp.Disk.layC; rw[if_pos hi,if_pos hs]
 rw[hc] at hwr
 have hpa:=diskPasses_any h hf
 obtain⟨wm,cw,hm,hDw,hBw,-⟩:=h.waitsSet (l:=d.waits)
 have hln:=fun ty=>IM.run_len (P:=Tryz.prog) (ty:=ty) (T:=196) (by kernel_rfl) hm
 have c2:w.cell? ⟨B,2,none⟩=some (.int .i64 (d.last:Int)):=by
  obtain⟨⟨v,wm',h1,_⟩,_,_⟩:=h
  exact zc 2 h1
 have hBl:B<w.heap.size:=by
  obtain⟨⟨v,wm',h1,_⟩,_,_⟩:=h
  exact(Array.getElem?_eq_some_iff.1 h1).1
 have hfz:∀W,Below w.heap.size w W→W.frozen? ⟨B,2,none⟩=false:=fun W hW=>by
  obtain⟨⟨v,wm',h1,_⟩,_,_⟩:=h
  exact q4z (heapOld hW h1)
 obtain⟨ln,hlnn⟩:=zx (d.waits.length)
 rw[hlnn] at hln hfew
 have q1:decide ((ln:Int)≥1024)=false:=decide_eq_false (by omega)
 have e1:IntKind.i64.wrap ((d.last:Int)+1)=((d.last+1:Nat):Int):=by rw[IntWalk.i64_in _ (by omega)]; omega
 have hst:∀W W4,Below w.heap.size w W→Below (W.setCell ⟨B,2,none⟩ (.int .i64 ((d.last+1:Nat):Int))).heap.size (W.setCell ⟨B,2,none⟩ (.int .i64 ((d.last+1:Nat):Int))) W4→∃wm2,W4.cell? ⟨B,1,none⟩=some (.map (some wm2))∧W4.cell? ⟨B,2,none⟩=some (.int .i64 ((d.last+1:Nat):Int)) ∧
  ∃o',(Instr.mapUpdate 196 (.map (some wm2)) (.int .i64 ((d.last+1:Nat):Int)) (.agg #[.int .i64 0,.int .i64 0,.int .i64 i,.string s])).run Tryz.prog W4 = .ok () (ChangeMaps.setBlock W4 wm2 o') ∧
   (ChangeMaps.setBlock W4 wm2 o').cell? ⟨B,2,none⟩=some (.int .i64 ((d.last+1:Nat):Int))∧DiskAt (ChangeMaps.setBlock W4 wm2 o') base B (toldW d i s) D∧q20z w D (ChangeMaps.setBlock W4 wm2 o'):=fun W W4 hW hW4=>by
  obtain⟨hd0,ht1⟩:=(h.below hW).lastSet (d.last+1)
  have hd1:=hd0.below hW4
  obtain⟨wm2,k1,m2,_,hne2,hset⟩:=hd1.waitsSet (l:=d.waits ++ [(((d.last+1:Nat):Int),⟨0,0,i,s⟩)])
  obtain⟨o',hup,ho'⟩:=IM.run_update (P:=Tryz.prog) (T:=196) Tryz.underlying196 Tryz.underlying3 m2 ((d.last+1:Nat):Int) (⟨0,0,i,s⟩:Wr)
  have hno:IM.getM d.waits ((d.last+1:Nat):Int)=none:=by
   unfold IM.getM
   rw[List.find?_eq_none.2 (fun x hx=>by
    rw[decide_eq_true_iff]
    have:=hkeys x hx
    omega)]
   rfl
  have hsm:IM.setM d.waits ((d.last+1:Nat):Int) (⟨0,0,i,s⟩:Wr)=d.waits ++ [(((d.last+1:Nat):Int),⟨0,0,i,s⟩)]:=by
   unfold IM.setM
   rw[hno]
   rfl
  rw[hsm] at ho'
  obtain⟨r1,r2⟩:=hset o' ho'
  have hB2:∃v wm',W4.heap[B]? = some (diskO v wm' (d.last+1)):=by
   obtain⟨⟨v,wm',h1,_⟩,_,_⟩:=hd1
   exact⟨v,wm',h1⟩
  obtain⟨v2,wm',h12⟩:=hB2
  have hk2:W4.cell? ⟨B,2,none⟩=some (.int .i64 ((d.last+1:Nat):Int)):=zc 2 h12
  refine⟨wm2,k1,hk2,o',hup,cellOf (k:=2) ((q98z (w:=W4) (m:=wm2) (o:=o')).heap h12 hne2) rfl,r1,q20z.trans hD (q20z.of_below hW) (q20z.trans (fun j hj=>Nat.lt_of_lt_of_le (hD j hj) hW.size) ht1 (q20z.trans (fun j hj=>?_) (q20z.of_below hW4) r2))⟩
  have:=hD j hj
  have:=hW.size
  have:=ht1.size
  omega
 obtain⟨NN,hNN⟩:∃z:Int,((d.last+1:Nat):Int)=z:=⟨_,rfl⟩
 rw[hNN] at e1 hst ⊢
 obtain⟨d',hd'⟩:∃d',toldW d i s=d':=⟨_,rfl⟩
 rw[hd'] at hst ⊢
 obtain⟨dl,hdl⟩:∃z:Int,(d.last:Int)=z:=⟨_,rfl⟩
 rw[hdl] at e1 c2
 unfold pt at hwr hpa ⊢
 have HIS:=zh his
 have HWR:=zh hwr
 have HPA:=zh hpa
 have HST:=zh hst
 have HFZ:=zh hfz
 clear his hwr hpa hst hfz
 clear h hD hf hkeys hi hs hc hm hDw hBw hlnn hNN hd' hdl hlast
 go_enter Tryz.func235,Tryz.ntmps235
 go_wp2_with fail
 refine(HIS.out _).mono ?_
 rintro e w1 ⟨rfl,hw1⟩
 subst hw1
 go_wp2_with fail
 refine HWR.out.mono ?_
 rintro e w2 ⟨rfl,hw2⟩
 subst hw2
 have hln1:=hln
 go_wp2_with fail
 refine HPA.out.mono ?_
 rintro e w3 ⟨rfl,hb3⟩
 have x2:=(hb3.cell (p:=⟨B,2,none⟩) hBl).trans c2
 have f2:=HFZ.out w3 hb3
 obtain⟨W4,hW4⟩:=zx (w3.setCell ⟨B,2,none⟩ (.int .i64 NN))
 have hst3:=HST.out w3 W4.drew hb3
 rw[hW4] at hst3
 obtain⟨wm2,y1,y2,o',hup,y3,hda,hdt⟩:=hst3 (blD (Below.refl _ _))
 have HE:Hid (DiskAt (ChangeMaps.setBlock W4.drew wm2 o') base B d' D∧q20z w2 D (ChangeMaps.setBlock W4.drew wm2 o')):=⟨hda,hdt⟩
 clear hda hdt hb3 c2 cw hln hln1 hst3
 go_upto_region 12 with fail
 clear x2 f2 hW4
 have hSd:W4.drew.cell? ⟨B,1,none⟩=some (.map (some wm2))∧W4.drew.cell? ⟨B,2,none⟩=some (.int .i64 NN):=⟨y1,y2⟩
 refine wp_region_last (fun W=>W.cell? ⟨B,1,none⟩=some (.map (some wm2))∧W.cell? ⟨B,2,none⟩=some (.int .i64 NN)) 13 (by kernel_rfl) (by first | trivial | assumption) (fun hHeld hX0=>?_)
 refine tkU 0 ?_; clear hX0; intro hX0; simp only[Act.put,ps0]
 refine tkU 1 ?_; clear hX0; intro hX0; simp only[Act.put,ps0]
 refine tkU 2 ?_; clear hX0; intro hX0; simp only[Act.put,ps0]
 refine tkU 3 ?_; clear hX0; intro hX0; simp only[Act.put,ps0]
 refine tkU 4 ?_; clear hX0; intro hX0; simp only[Act.put,ps0]
 refine tkU 5 ?_; clear hX0; intro hX0; simp only[Act.put,ps0]
 refine tkU 6 ?_; clear hX0; intro hX0; simp only[Act.put,ps0]
 refine tkU 7 ?_; clear hX0; intro hX0; simp only[Act.put,ps0]
 refine tkU 8 ?_; clear hX0; intro hX0; simp only[Act.put,ps0]
 refine tkU 9 ?_; clear hX0; intro hX0; simp only[Act.put,ps0]
 refine tkU 10 ?_; clear hX0; intro hX0; simp only[Act.put,ps0]
 refine tkU 11 ?_; clear hX0; intro hX0; simp only[Act.put,ps0]
 refine tkU 12 ?_; clear hX0; intro hX0; simp only[Act.put,ps0]
 refine AnyU.each (is:=[13]) (by kernel_rfl) (by simp) (EachU.cons hX0 (by kernel_rfl) rfl (fun K hK=>?_) EachU.nil)
 try simp only[gg0]
 go_simp
 try simp only
 refine hK.out _ _ (fun h=>absurd h (by decide)) (fun _ hX1=>?_)
 clear hK K hX0; have hX0:=hX1; clear hX1
 try simp only[Act.put,ps0]
 refine AnyU.done (by kernel_rfl) ?_ _
 clear hSd hHeld hX0 y1 y2 hup
 go_wp2
 go_ret2
 exact⟨rfl,HE.out⟩
def landD (d:Sp.Disk) (n:Int) (k:Nat) (s:ByteArray):Sp.Disk:=⟨d.l.set k s,without d.waits n,d.last⟩
theorem wr_lookup {W:World} {wm:Nat} {l:List (Int×Wr)} (hm:IM.MapAt wrV W wm l) {n:Int} {x:Wr} (hx:IM.getM l n=some x):(Instr.lookup 196 (.map (some wm)) (.int .i64 n) true).run Tryz.prog W = .ok (.tuple #[.agg #[.int .i64 x.node,.int .i64 x.epoch,.int .i64 x.at_,.string x.s],.bool true]) W:=by
 have:=IM.run_lookup2 (P:=Tryz.prog) (T:=196) Tryz.underlying196 Tryz.underlying3 (z:=.agg #[.int .i64 0,.int .i64 0,.int .i64 0,.string ⟨#[]⟩]) (by kernel_rfl) hm n
 rw[hx] at this
 exact this
theorem diskApply_any {w:World} {base B:Nat} {d:Sp.Disk} {D:Nat→Prop} (h:DiskAt w base B d D) (hD:∀j,D j→j<w.heap.size) (hf:d.l[1]? = some (wallB 0 0)) (n:Int) (k:Nat) (s:ByteArray) (hx:IM.getM d.waits n=some ⟨0,0,(k:Int),s⟩) (hk:k<d.l.length) :
 Calls Tryz.prog 89 #[pt B,.int .i64 n] w fun e w'=>e = .returned (.tuple #[.bool true,.int .i64 0])∧DiskAt w' base B (landD d n k s) D∧q20z w D w':=by
 obtain⟨wm,cw,hm,hDw,hBw,-⟩:=h.waitsSet (l:=d.waits)
 have hlk:=wr_lookup hm hx
 have hBl:B<w.heap.size:=by
  obtain⟨⟨v,wm',h1,_⟩,_,_⟩:=h
  exact(Array.getElem?_eq_some_iff.1 h1).1
 have hst:∀W,Below w.heap.size w W→∃wm2,W.cell? ⟨B,1,none⟩=some (.map (some wm2))∧∃o',(Builtin.delete_ #[196,3] 0 #[.map (some wm2),.int .i64 n]).run Tryz.prog W = .ok (.tuple #[]) (ChangeMaps.setBlock W wm2 o') ∧
  Turn (fun j=>j=wm2) W (ChangeMaps.setBlock W wm2 o')∧wm2<w.heap.size∧B≠wm2 ∧
  DiskAt (ChangeMaps.setBlock W wm2 o') base B ⟨d.l,without d.waits n,d.last⟩ D∧q20z w D (ChangeMaps.setBlock W wm2 o'):=fun W hW=>by
  obtain⟨wm2,k1,m2,hD2,hne2,hset⟩:=(h.below hW).waitsSet (l:=without d.waits n)
  obtain⟨o',hup,ho'⟩:=IM.run_delete (P:=Tryz.prog) (T:=196) (ty:=0) Tryz.underlying196 Tryz.underlying3 m2 n
  obtain⟨r1,r2⟩:=hset o' ho'
  exact⟨wm2,k1,o',hup,q98z,hD wm2 hD2,hne2,r1,q20z.trans hD (q20z.of_below hW) r2⟩
 have hend:∀W,DiskAt W base B ⟨d.l,without d.waits n,d.last⟩ D→q20z w D W→∃g cap,W.cell? ⟨B,0,none⟩=some (.slice (some ⟨g,0,none⟩) d.l.length cap)∧(∃y,W.cell? ⟨g,k,none⟩=some y)∧W.frozen? ⟨g,k,none⟩=false ∧
  DiskAt (W.setCell ⟨g,k,none⟩ (.string s)) base B (landD d n k s) D∧q20z w D (W.setCell ⟨g,k,none⟩ (.string s)):=fun W hW hT=>by
  obtain⟨g,cap,k1,k2,k3,k4,_,k5,k6,k7⟩:=lay_stored hW hk s
  obtain⟨y,hy⟩:=Option.isSome_iff_exists.1 k2
  refine⟨g,cap,k1,⟨y,hy⟩,k3,k6,q20z.trans hD hT ⟨fun j=>j=g,fun j e=>e ▸ k4,fun j e=>?_,k7⟩⟩
  obtain⟨cs,fr,he⟩:=k5 j e
  exact Or.inl ⟨cs,fr,_,he,Or.inr rfl⟩
 have hpa:=fun(W:World) (hW:DiskAt W base B ⟨d.l,without d.waits n,d.last⟩ D)=>diskPasses_any hW hf
 obtain⟨N,hN⟩:=zx (d.l.length)
 rw[hN] at hend hk
 obtain⟨d',hd'⟩:∃d',landD d n k s=d':=⟨_,rfl⟩
 rw[hd'] at hend ⊢
 obtain⟨dm,hdm⟩:∃dm:Sp.Disk,(⟨d.l,without d.waits n,d.last⟩:Sp.Disk)=dm:=⟨_,rfl⟩
 rw[hdm] at hst hend hpa
 have hki:(k:Int)<(N:Int):=by omega
 unfold pt at hpa ⊢
 have HD:=zh hD
 have HST:=zh hst
 have HEND:=zh hend
 have HPA:=zh hpa
 clear hst hend hpa
 clear h hD hf hm hDw hBw hx hN hd' hdm
 go_enter Tryz.func89,Tryz.ntmps89
 obtain⟨W1,hW1⟩:=zx (w.alloc (.cells #[.int .i64 0,.int .i64 0,.int .i64 (k:Int),.string s] 252))
 have hb1:Below w.heap.size w W1:=by rw[←hW1]; exact bl2 _
 have hz1:W1.heap[w.heap.size]? = some (.cells #[.int .i64 0,.int .i64 0,.int .i64 (k:Int),.string s] 252 (0,0)):=by rw[←hW1]; exact heapNew w _
 obtain⟨wm2,y1,o',hup,hT2,hlt2,hne2,hda,hdt⟩:=HST.out W1 hb1
 obtain⟨W2,hW2⟩:=zx (ChangeMaps.setBlock W1 wm2 o')
 rw[hW2] at hup hT2 hda hdt
 have hz2:=hT2.heap hz1 (by omega)
 have x0:=zc 0 hz2
 have x1:=zc 1 hz2
 have HZ2:=zh hz2
 have HD2:=zh hda
 have HT2:=zh hdt
 have HS2:Hid (w.heap.size<W2.heap.size):=(Array.getElem?_eq_some_iff.1 hz2).1
 clear hb1 hz1 hT2 hda hdt hz2 HST
 go_wp2_with fail
 clear x0 x1 y1 hup hlk cw hW1 hW2
 refine(HPA.out W2 HD2.out).mono ?_
 rintro e w3 ⟨rfl,hb3⟩
 have HZ3:=zh (heapOld hb3 HZ2.out)
 have hb4:Below W2.heap.size W2 w3.drew:=blD hb3
 obtain⟨g,cap,c0,⟨y,hy⟩,hfz,hda,hdt⟩:=HEND.out w3.drew (HD2.out.below hb4) (q20z.trans HD.out HT2.out (q20z.of_below hb4))
 have HE:Hid (DiskAt (w3.drew.setCell ⟨g,k,none⟩ (.string s)) base B d' D∧q20z w D (w3.drew.setCell ⟨g,k,none⟩ (.string s))):=⟨hda,hdt⟩
 have z2:=zc 2 (show w3.drew.heap[w.heap.size]? = _ from HZ3.out)
 have z3:=zc 3 (show w3.drew.heap[w.heap.size]? = _ from HZ3.out)
 clear hb3 hb4 hda hdt HEND HPA
 go_upto_region 7 with fail
 have hSd:w3.drew.cell? ⟨B,0,none⟩=some (.slice (some ⟨g,0,none⟩) N cap)∧w3.drew.cell? ⟨w.heap.size,2,none⟩=some (.int .i64 (k:Int))∧w3.drew.cell? ⟨w.heap.size,3,none⟩=some (.string s):=⟨c0,z2,z3⟩
 refine wp_region_last (fun W=>W.cell? ⟨B,0,none⟩=some (.slice (some ⟨g,0,none⟩) N cap)∧W.cell? ⟨w.heap.size,2,none⟩=some (.int .i64 (k:Int))∧W.cell? ⟨w.heap.size,3,none⟩=some (.string s)) 9 (by kernel_rfl) (by first | trivial | assumption) (fun hHeld hX0=>?_)
 refine tkU 0 ?_; clear hX0; intro hX0; simp only[Act.put,ps0]
 refine tkU 1 ?_; clear hX0; intro hX0; simp only[Act.put,ps0]
 refine tkU 2 ?_; clear hX0; intro hX0; simp only[Act.put,ps0]
 refine tkU 3 ?_; clear hX0; intro hX0; simp only[Act.put,ps0]
 refine tkU 4 ?_; clear hX0; intro hX0; simp only[Act.put,ps0]
 refine tkU 5 ?_; clear hX0; intro hX0; simp only[Act.put,ps0]
 refine tkU 6 ?_; clear hX0; intro hX0; simp only[Act.put,ps0]
 refine tkU 7 ?_; clear hX0; intro hX0; simp only[Act.put,ps0]
 refine tkU 8 ?_; clear hX0; intro hX0; simp only[Act.put,ps0]
 refine AnyU.each (is:=[9]) (by kernel_rfl) (by simp) (EachU.cons hX0 (by kernel_rfl) rfl (fun K hK=>?_) EachU.nil)
 try simp only[gg0]
 go_simp
 try simp only
 refine hK.out _ _ (fun h=>absurd h (by decide)) (fun _ hX1=>?_)
 clear hK K hX0; have hX0:=hX1; clear hX1
 try simp only[Act.put,ps0]
 refine AnyU.done (by kernel_rfl) ?_ _
 clear hSd hHeld hX0 c0 z2 z3 hy hfz
 go_wp2
 go_ret2
 exact⟨rfl,HE.out⟩
def dropD (d:Sp.Disk) (n:Int):Sp.Disk:=⟨d.l,without d.waits n,d.last⟩
theorem diskDrop_any {w:World} {base B:Nat} {d:Sp.Disk} {D:Nat→Prop} (h:DiskAt w base B d D) (hD:∀j,D j→j<w.heap.size) (n:Int) (x:Wr) (hx:IM.getM d.waits n=some x) :
 Calls Tryz.prog 91 #[pt B,.int .i64 n] w fun e w'=>e = .returned (.int .i64 0)∧DiskAt w' base B (dropD d n) D∧q20z w D w':=by
 obtain⟨wm,cw,hm,hDw,hBw,-⟩:=h.waitsSet (l:=d.waits)
 have hlk:=wr_lookup hm hx
 have hBl:B<w.heap.size:=by
  obtain⟨⟨v,wm',h1,_⟩,_,_⟩:=h
  exact(Array.getElem?_eq_some_iff.1 h1).1
 have hst:∀W,Below w.heap.size w W→∃wm2,W.cell? ⟨B,1,none⟩=some (.map (some wm2))∧∃o',(Builtin.delete_ #[196,3] 0 #[.map (some wm2),.int .i64 n]).run Tryz.prog W = .ok (.tuple #[]) (ChangeMaps.setBlock W wm2 o') ∧
  DiskAt (ChangeMaps.setBlock W wm2 o') base B (dropD d n) D∧q20z w D (ChangeMaps.setBlock W wm2 o'):=fun W hW=>by
  obtain⟨wm2,k1,m2,hD2,hne2,hset⟩:=(h.below hW).waitsSet (l:=without d.waits n)
  obtain⟨o',hup,ho'⟩:=IM.run_delete (P:=Tryz.prog) (T:=196) (ty:=0) Tryz.underlying196 Tryz.underlying3 m2 n
  obtain⟨r1,r2⟩:=hset o' ho'
  exact⟨wm2,k1,o',hup,r1,q20z.trans hD (q20z.of_below hW) r2⟩
 obtain⟨xn,xe,xa,xs⟩:=x
 dsimp only at hlk
 unfold pt
 have HST:=zh hst
 clear hst
 clear h hD hm hDw hBw hx
 go_enter Tryz.func91,Tryz.ntmps91
 obtain⟨W1,hW1⟩:=zx (w.alloc (.cells #[.int .i64 xn,.int .i64 xe,.int .i64 xa,.string xs] 252))
 have hb1:Below w.heap.size w W1:=by rw[←hW1]; exact bl2 _
 obtain⟨wm2,y1,o',hup,hda,hdt⟩:=HST.out W1 hb1
 have HE:Hid (DiskAt (ChangeMaps.setBlock W1 wm2 o') base B (dropD d n) D∧q20z w D (ChangeMaps.setBlock W1 wm2 o')):=⟨hda,hdt⟩
 clear hb1 hda hdt HST
 go_wp2
 go_ret
 exact⟨rfl,HE.out⟩
end
