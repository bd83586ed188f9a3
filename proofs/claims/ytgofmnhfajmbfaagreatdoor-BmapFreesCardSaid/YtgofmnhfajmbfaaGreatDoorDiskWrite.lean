/-
 Sets of numbers in memory: maps to true.
-/
import Derived.Test.YtgofmnhfajmbfaaGreatDoorBmD
set_option maxRecDepth 20000
namespace Go.Proofs.YtgofmnhfajmbfaaGreatDoor
open Go Go.RowKit Txt Sp
def truV (b:Bool):Value:=.bool b
def truE (X:List Int):List (Int×Bool):=X.map fun n=>(n,true)
theorem getM_tru (X:List Int) (n:Int):IM.getM (truE X) n=if n∈X then some true else none:=by
 induction X with
 | nil=>rfl
 | cons x r ih=>
   unfold truE IM.getM at ih ⊢
   rw[List.map_cons,List.find?_cons]
   by_cases h:x=n
   ·subst h
    simp
   ·rw[decide_eq_false h]
    simp only[ih,List.mem_cons,Ne.symm h,false_or]
theorem setM_tru {X:List Int} {n:Int} (h:n∉X):IM.setM (truE X) n true=truE (X ++ [n]):=by
 unfold IM.setM
 rw[getM_tru,if_neg h]
 unfold truE
 rw[List.map_append]
 rfl
theorem setM_tru_in {X:List Int} {n:Int} (h:n∈X):IM.setM (truE X) n true=truE X:=by
 unfold IM.setM
 rw[getM_tru,if_pos h]
 unfold truE
 rw[if_pos (by rfl),List.map_map]
 refine List.map_congr_left (fun x _=>?_)
 show(if x=n then(n,true) else(x,true))=(x,true)
 split
 ·rename_i e; rw[e]
 ·rfl
theorem truE_length (X:List Int):(truE X).length=X.length:=by unfold truE; rw[List.length_map]
theorem truE_keys (X:List Int):(truE X).map Prod.fst=X:=by
 unfold truE
 rw[List.map_map]
 exact List.map_id X
section
variable {wr:World} {m:Nat} {X:List Int}
theorem tru_lookup (h:IM.MapAt truV wr m (truE X)) (n:Int):(Instr.lookup 138 (.map (some m)) (.int .i64 n) false).run Tryz.prog wr = .ok (.bool (decide (n∈X))) wr:=by
 have:=IM.run_lookup (P:=Tryz.prog) Tryz.underlying138 Tryz.underlying3 (z:=.bool false) (by kernel_rfl) h n
 rw[this,getM_tru]
 by_cases hn:n∈X
 ·rw[if_pos hn,decide_eq_true hn]; rfl
 ·rw[if_neg hn,decide_eq_false hn]; rfl
theorem tru_update (h:IM.MapAt truV wr m (truE X)) (n:Int) :
 ∃o',(Instr.mapUpdate 138 (.map (some m)) (.int .i64 n) (.bool true)).run Tryz.prog wr = .ok () (ChangeMaps.setBlock wr m o')∧IM.IsMap truV o' (truE (if n∈X then X else X ++ [n])):=by
 obtain⟨o,h1,h2⟩:=IM.run_update (P:=Tryz.prog) Tryz.underlying138 Tryz.underlying3 h n true
 refine⟨o,h1,?_⟩
 by_cases hn:n∈X
 ·rw[setM_tru_in hn] at h2
  rw[if_pos hn]
  exact h2
 ·rw[setM_tru hn] at h2
  rw[if_neg hn]
  exact h2
theorem q123z {w:World} {m:Nat} {o:Obj}:Turn (fun j=>j=m) w (ChangeMaps.setBlock w m o):=
 ⟨rfl,rfl,rfl,by rw[IM.size_setBlock]; exact Nat.le_refl _,fun k _ h=>IM.heap_setBlock_ne h⟩
theorem mapAt_turn {α:Type} {enc:α→Value} {K:Nat→Prop} {a b:World} {m:Nat} {l:List (Int×α)} (hT:Turn K a b) (h:IM.MapAt enc a m l) (hk:¬K m):IM.MapAt enc b m l:=by
 obtain⟨o,h1,h2⟩:=h
 exact⟨o,hT.heap h1 hk,h2⟩
end
theorem run_append_full {P:Program} (w:World) (base:Nat) (t ty e:TypeId) (i:TypeInfo) (z:Value) (size bytes:Nat) (ht:P.underlying t=some (.slice e)) (hi:P.info? e=some i) (hz:i.zero=some z)
 (hsize:i.size=size) (hby:i.bytes=bytes) (hzs:z.cells.size=size) (hsz:0<size) (gb n:Nat) (xs:List Value) (hown:w.ownsRow base e size (.slice (some ⟨gb,0,none⟩) n n) n xs)
 (a:Addr) (m c:Nat) (news:List Value) (hl:news.length=m*size) (hnews:∀j u,news[j]? = some u→w.cell? (a.add j)=some u) (h1:∀u∈news,u.oneCell' = true) (hm:0<m)
 (h63:n+m≤maxLen) (hbytes:(n+m)*bytes≤140737488355328) (hbase:base≤w.heap.size) :
 ∃cap' w',(Builtin.append_ #[t,t] ty #[.slice (some ⟨gb,0,none⟩) n n,.slice (some a) m c]).run P w = .ok (.slice (some ⟨w.heap.size,0,none⟩) (n+m) cap') w' ∧
  w'.ownsRow base e size (.slice (some ⟨w.heap.size,0,none⟩) (n+m) cap') (n+m) (xs ++ news)∧Below w.heap.size w w':=by
 obtain⟨v',w',hr,h2,h3,_,h5⟩:=run_append_own_at (P:=P) w base t ty e i z size bytes ht hi hz hsize hby hzs hsz _ n xs hown a m c news hl hnews h1 h63 hbytes hbase
 subst hsize
 subst hby
 have hsmall:n+m≤9223372036854775807:=by simp only[maxLen] at h63; omega
 have holds:∀j u,xs[j]? = some u→w.cell? ((⟨gb,0,none⟩:Addr).add j)=some u:=hown.cells (g:=gb) rfl
 have hr2:=run_append_grow (P:=P) w t ty e i z ht hi hz ⟨gb,0,none⟩ n n xs hown.1 holds a m c news hl hnews (by omega) (by omega) (growslice_fits (by omega) hbytes)
 rw[hr] at hr2
 obtain⟨hv,hw⟩:=Result.ok.inj hr2
 subst hv
 subst hw
 exact⟨_,_,hr,h2,bl1 (blD (Below.refl _ _)) _⟩
theorem setCell_again {w:World} {b:Nat} {v:Value} {T:TypeId} (h:w.heap[b]? = some (.cells #[v] T (0,0))):Below w.heap.size w (w.setCell ⟨b,0,none⟩ v):=by
 have hT:=q10z (w:=w) (b:=b) (k:=0) (v:=v)
 have h2:(w.setCell ⟨b,0,none⟩ v).heap[b]? = some (.cells #[v] T (0,0)):=q12z (k:=0) h v
 refine { os:=hT.os,tape:=hT.tape,output:=hT.output,size:=hT.size,block:=fun k hk=>?_ }
 by_cases e:k=b
 ·subst e
  exact h2.trans h.symm
 ·exact hT.block k hk e
section
variable {w0 wr w':World} {base B Bd Bf:Nat} {D0 D:Nat→Prop} {g:Sp.Geom} {i at_:Int} {n:Sp.Inode} {t:BSt} {vb vm:Value}
end
theorem setCells_sets {b:Nat}:∀(vs:List Value) (o:Nat) (w:World),w.setCells b o vs=sets w b o vs
 | [],_,_=>rfl
 | v :: r,o,w=>setCells_sets r (o+1) (w.setCell ⟨b,o,none⟩ v)
theorem q159z {b:Nat}:∀(vs:List Value) (i:Nat) (w:World),Turn (fun j=>j=b) w (sets w b i vs)
 | [],_,_=>Turn.refl _ _
 | _ :: r,i,_=>q10z.trans (q159z r (i+1) _) (fun _ _ h=>h) (fun _ _ h=>h)
theorem chgs_length:∀l:List (Chg×Value),(l.flatMap chgC).length=l.length*6
 | []=>rfl
 | x :: r=>by
   rw[List.flatMap_cons,List.length_append,chgs_length r,List.length_cons]
   show 6+_=_
   omega
theorem chgs_take:∀(l:List (Chg×Value)) (i:Nat),(l.flatMap chgC).take (i*6)=(l.take i).flatMap chgC
 | [],i=>by simp
 | x :: r,0=>by simp
 | x :: r,i+1=>by
   rw[List.flatMap_cons,List.take_succ_cons,List.flatMap_cons,←chgs_take r i,show(i+1)*6=(chgC x).length+i*6 by show _=6+_; omega,List.take_length_add_append]
theorem chgs_drop:∀(l:List (Chg×Value)) (i:Nat),(l.flatMap chgC).drop (i*6)=(l.drop i).flatMap chgC
 | [],i=>by simp
 | x :: r,0=>by simp
 | x :: r,i+1=>by
   rw[List.flatMap_cons,List.drop_succ_cons,←chgs_drop r i,show(i+1)*6=(chgC x).length+i*6 by show _=6+_; omega,List.drop_length_add_append]
def RowG (w:World) (g cap:Nat) (R:List (Chg×Value)):Prop:=∃cur:Array Value,w.heap[g]? = some (.cells cur 209 (0,0))∧cur.size=cap*6∧R.length≤cap∧cur.toList.take (R.length*6)=R.flatMap chgC
section
variable {w w':World} {g cap:Nat} {R:List (Chg×Value)}
theorem RowG.below (h:RowG w g cap R) (hb:Below w.heap.size w w'):RowG w' g cap R:=by
 obtain⟨cur,h1,h2⟩:=h
 exact⟨cur,q1z hb h1,h2⟩
theorem RowG.cell (h:RowG w g cap R) {j:Nat} {x:Chg×Value} (hx:R[j]? = some x) {m:Nat} {y:Value} (hy:(chgC x)[m]? = some y):w.cell? ⟨g,j*6+m,none⟩=some y:=by
 obtain⟨cur,h1,h2,h3,h4⟩:=h
 have hj:=(List.getElem?_eq_some_iff.1 hx).1
 have hm:m<6:=(List.getElem?_eq_some_iff.1 hy).1
 refine cellOf h1 ?_
 have e1:cur.toList[j*6+m]? = (R.flatMap chgC)[j*6+m]?:=by rw[←h4,List.getElem?_take_of_lt (by omega)]
 have e2:(R.flatMap chgC)[j*6+m]? = ((R.drop j).flatMap chgC)[m]?:=by rw[←chgs_drop,List.getElem?_drop]
 rw[←Array.getElem?_toList,e1,e2,List.drop_eq_getElem_cons hj,List.flatMap_cons,(List.getElem?_eq_some_iff.1 hx).2,List.getElem?_append_left hm]
 exact hy
theorem RowG.free (h:RowG w g cap R) (k:Nat):w.frozen? ⟨g,k,none⟩=false:=by
 obtain⟨cur,h1,_⟩:=h
 exact q4z h1
theorem RowG.set (h:RowG w g cap R) {i:Nat} (hi:i<R.length) (x:Chg×Value):RowG (sets w g (i*6) (chgC x)) g cap (R.set i x):=by
 obtain⟨cur,h1,h2,h3,h4⟩:=h
 have h6:(chgC x).length=6:=rfl
 have hcl:cur.toList.length=cap*6:=by rw[Array.length_toList,h2]
 refine⟨_,q139z (chgC x) (i*6) w cur h1 (by rw[h6]; omega),?_,by rw[List.length_set]; exact h3,?_⟩
 ·rw[List.size_toArray,List.length_append,List.length_append,List.length_take,List.length_drop,hcl,h6]
  omega
 ·rw[List.length_set,List.set_eq_take_append_cons_drop,if_pos hi,List.flatMap_append,List.flatMap_cons,←chgs_take,←chgs_drop,←h4,List.append_assoc,List.take_append,List.take_append,h6]
  have e1:(cur.toList.take (i*6)).length=i*6:=by rw[List.length_take,hcl]; omega
  rw[e1,List.take_take,List.take_take,List.take_of_length_le (l:=chgC x) (by rw[h6]; omega),List.drop_take,show min (R.length*6) (i*6)=i*6 by omega,show min (i*6) (R.length*6)=i*6 by omega,show(i+1)*6=i*6+6 by omega,show R.length*6-i*6-6=R.length*6-(i*6+6) by omega]
theorem RowG.own (h:RowG w g cap R) {base:Nat} (hg:base≤g) (hc:cap≤maxLen) {i:Nat} (hi:i≤R.length):OwnR 209 6 chgC base w (.slice (some ⟨g,0,none⟩) i cap) (R.take i):=by
 obtain⟨cur,h1,h2,h3,h4⟩:=h
 have hl:(R.take i).length=i:=by rw[List.length_take]; omega
 refine⟨chgs_length _,Or.inr ⟨g,cap,cur,by rw[hl],hg,h1,by omega,hc,h2,?_⟩⟩
 rw[hl,←chgs_take,←h4,List.take_take,show min (i*6) (R.length*6)=i*6 by omega]
theorem RowG.tail (h:RowG w g cap R) {i:Nat} (hi:i≤R.length) {Z:List Value} (hZ:Z.length=(R.length-i)*6):RowG (sets w g (i*6) Z) g cap (R.take i):=by
 obtain⟨cur,h1,h2,h3,h4⟩:=h
 have hcl:cur.toList.length=cap*6:=by rw[Array.length_toList,h2]
 have hl:(R.take i).length=i:=by rw[List.length_take]; omega
 refine⟨_,q139z Z (i*6) w cur h1 (by rw[hZ]; omega),?_,by omega,?_⟩
 ·rw[List.size_toArray,List.length_append,List.length_append,List.length_take,List.length_drop,hcl,hZ]
  omega
 ·rw[hl,←chgs_take,←h4,List.append_assoc,List.take_append_of_le_length (by rw[List.length_take,hcl]; omega),List.take_take,List.take_take,show min (i*6) (i*6)=i*6 by omega,show min (i*6) (R.length*6)=i*6 by omega]
end
theorem OwnR.rowG {w:World} {base:Nat} {v:Value} {l:List (Chg×Value)} (h:OwnR 209 6 chgC base w v l) (h0:l≠[]):∃g cap,v = .slice (some ⟨g,0,none⟩) l.length cap∧base≤g∧cap≤maxLen∧RowG w g cap l:=by
 obtain⟨_,⟨rfl,hn⟩ | ⟨g,cap,cur,rfl,hg,hh,h1,h2,h3,h4⟩⟩:=h
 ·exact absurd (List.eq_nil_of_length_eq_zero hn) h0
 ·exact⟨g,cap,rfl,hg,h2,cur,hh,h3,h1,h4⟩
section
set_option maxHeartbeats 4000000
theorem superPasses_any (w:World):Calls Tryz.prog 237 #[.string (wallB 0 0),.int .i64 0,.int .i64 0] w fun e w'=>e = .returned (.tuple #[.bool true,.int .i64 0])∧Below w.heap.size w w':=by
 have hep:=sepochs_any w (wallB 0 0)
 unfold EpochsPost at hep
 rw[if_pos (show q79z (wallB 0 0) by decide +kernel),if_pos (show q79z (wallB 0 0) by decide +kernel),if_pos (show q79z (wallB 0 0) by decide +kernel),show numAt (wallB 0 0) 4 4=0 by decide +kernel,show numAt (wallB 0 0) 8 4=0 by decide +kernel] at hep
 obtain⟨s,hs⟩:∃s,wallB 0 0=s:=⟨_,rfl⟩
 rw[hs] at hep ⊢
 have HEP:=Lib.hid hep
 clear hep
 clear hs
 go_enter Tryz.func237,Tryz.ntmps237
 go_wp2_with fail
 refine HEP.out.mono ?_
 rintro e w1 ⟨rfl,hb1⟩
 have HB1:=Lib.hid hb1
 clear hb1
 go_wp2
 go_ret2
 exact⟨rfl,bl1 HB1.out _⟩
theorem diskPasses_any {w:World} {base B:Nat} {d:Sp.Disk} {D:Nat→Prop} (h:DiskAt w base B d D) (hf:d.l[1]? = some (wallB 0 0)) :
 Calls Tryz.prog 170 #[pt B,.int .i64 0,.int .i64 0] w fun e w'=>e = .returned (.bool true)∧Below w.heap.size w w':=by
 obtain⟨ad,n,cap,c0,HN,hn,HF⟩:=h.open
 have hl1:1<n:=by rw[HN.out]; exact(List.getElem?_eq_some_iff.1 hf).1
 obtain⟨b,o,s,rfl,hb,hx,hc⟩:=HF.out 1 hl1
 rw[hf] at hx
 have hs:s=wallB 0 0:=(Option.some.inj hx).symm
 have hp:=fun W:World=>superPasses_any W
 rw[←hs] at hp
 have i1:(1:Int)<(n:Int):=by omega
 unfold pt
 have HP:=Lib.hid hp
 clear hp
 clear hf hx hs h hb
 go_enter Tryz.func170,Tryz.ntmps170
 go_wp2_with fail
 refine(HP.out _).mono ?_
 rintro e w1 ⟨rfl,hb1⟩
 have HB1:=Lib.hid hb1
 clear hb1
 go_wp2
 go_ret
 exact⟨rfl,HB1.out⟩
def DskK (w:World) (K:Nat→Prop):Prop:=∀j,K j→(∃cs fr e,w.heap[j]? = some (.cells cs e fr)∧(e=198∨e=9))∨∃es cl,w.heap[j]? = some (.map es cl)
def q20z (w:World) (D:Nat→Prop) (w':World):Prop:=∃K,(∀j,K j→D j)∧DskK w K∧Turn K w w'
theorem q20z.of_below {w w':World} {D:Nat→Prop} (h:Below w.heap.size w w'):q20z w D w':=⟨fun _=>False,fun _ h=>h.elim,fun _ h=>h.elim,Turn.of_below h⟩
theorem q20z.trans {a b c:World} {D:Nat→Prop} (hD:∀j,D j→j<a.heap.size) (h:q20z a D b) (k:q20z b D c):q20z a D c:=by
 obtain⟨K1,d1,c1,t1⟩:=h
 obtain⟨K2,d2,c2,t2⟩:=k
 refine⟨fun j=>K1 j∨K2 j,fun j hj=>hj.elim (d1 j) (d2 j),fun j hj=>?_,t1.trans t2 (fun _ _ h=>Or.inl h) (fun _ _ h=>Or.inr h)⟩
 by_cases h1:K1 j
 ·exact c1 j h1
 ·have h2:=hj.resolve_left h1
  have he:=t1.block j (hD j (d2 j h2)) h1
  rcases c2 j h2 with ⟨cs,fr,e,hc,ht⟩ | ⟨es,cl,hc⟩
  ·exact Or.inl ⟨cs,fr,e,he.symm.trans hc,ht⟩
  ·exact Or.inr ⟨es,cl,he.symm.trans hc⟩
theorem q20z.size {w w':World} {D:Nat→Prop} (h:q20z w D w'):w.heap.size≤w'.heap.size:=by
 obtain⟨K,_,_,hT⟩:=h
 exact hT.size
theorem DiskAt.lastSet {w:World} {base B:Nat} {d:Sp.Disk} {D:Nat→Prop} (h:DiskAt w base B d D) (n:Nat):DiskAt (w.setCell ⟨B,2,none⟩ (.int .i64 (n:Int))) base B ⟨d.l,d.waits,n⟩ D∧q20z w D (w.setCell ⟨B,2,none⟩ (.int .i64 (n:Int))):=by
 obtain⟨⟨v,wm,h1,h2,⟨o,h3,h3'⟩,h4,h5,h6⟩,ho,hl⟩:=h
 have hT:Turn (fun j=>j=B) w (w.setCell ⟨B,2,none⟩ (.int .i64 (n:Int))):=q10z
 refine⟨⟨⟨v,wm,q12z (k:=2) h1 _,h2.turn hT (fun k hk e=>?_),⟨o,hT.heap h3 (fun e=>?_),h3'⟩,h4,h5,h6⟩,ho,hl⟩,fun j=>j=B,fun j e=>e ▸ ho,fun j e=>by
  obtain rfl:j=B:=e
  exact Or.inl ⟨_,_,_,h1,Or.inl rfl⟩,hT⟩
 ·obtain⟨_,⟨rfl,_⟩ | ⟨g,cap,cur,rfl,hg,hh,_⟩⟩:=h2
  ·cases hk
  ·cases hk
   have e:g=B:=e
   rw[e,h1] at hh
   unfold diskO at hh
   cases hh
 ·have e:wm=B:=e
  obtain⟨es,cl,rfl,_⟩:=h3'
  rw[e,h1] at h3
  unfold diskO at h3
  cases h3
theorem DiskAt.waitsSet {w:World} {base B:Nat} {d:Sp.Disk} {D:Nat→Prop} (h:DiskAt w base B d D) {l:List (Int×Wr)}:∃wm,w.cell? ⟨B,1,none⟩=some (.map (some wm))∧IM.MapAt wrV w wm d.waits∧D wm∧B≠wm ∧
 ∀o',IM.IsMap wrV o' l→DiskAt (ChangeMaps.setBlock w wm o') base B ⟨d.l,l,d.last⟩ D∧q20z w D (ChangeMaps.setBlock w wm o'):=by
 obtain⟨⟨v,wm,h1,h2,⟨o,h3,h3'⟩,h4,h5,h6⟩,ho,hl⟩:=h
 have hne:B≠wm:=fun e=>by
  obtain⟨es,cl,rfl,_⟩:=h3'
  rw[←e,h1] at h3
  unfold diskO at h3
  cases h3
 refine⟨wm,cellOf (k:=1) h1 rfl,⟨o,h3,h3'⟩,h5,hne,fun o' ho'=>?_⟩
 have hT:Turn (fun j=>j=wm) w (ChangeMaps.setBlock w wm o'):=q123z
 have hlt:wm<w.heap.size:=(Array.getElem?_eq_some_iff.1 h3).1
 refine⟨⟨⟨v,wm,hT.heap h1 hne,h2.turn hT (fun k hk e=>?_),⟨o',IM.heap_setBlock_at hlt,ho'⟩,h4,h5,h6⟩,ho,hl⟩,fun j=>j=wm,fun j e=>e ▸ h5,fun j e=>?_,hT⟩
 ·obtain⟨_,⟨rfl,_⟩ | ⟨g,cap,cur,rfl,hg,hh,_⟩⟩:=h2
  ·cases hk
  ·cases hk
   have e:g=wm:=e
   obtain⟨es,cl,rfl,_⟩:=h3'
   rw[e,h3] at hh
   cases hh
 ·obtain rfl:j=wm:=e
  obtain⟨es,cl,rfl,_⟩:=h3'
  exact Or.inr ⟨es,cl,h3⟩
theorem issuer_any (w:World):Calls Tryz.prog 274 #[.int .i64 0,.int .i64 0] w fun e w'=>e = .returned (.int .i64 0)∧w' = w:=by
 go_enter Tryz.func274,Tryz.ntmps274
 go_wp2
 go_ret
 exact⟨rfl,rfl⟩
def toldW (d:Sp.Disk) (i:Int) (s:ByteArray):Sp.Disk:=⟨d.l,d.waits ++ [(((d.last+1:Nat):Int),⟨0,0,i,s⟩)],d.last+1⟩
theorem diskIssue_any {w:World} {base B:Nat} {d:Sp.Disk} {D:Nat→Prop} (h:DiskAt w base B d D) (hD:∀j,D j→j<w.heap.size) (hf:d.l[1]? = some (wallB 0 0)) (hfew:d.waits.length<1024) (hlast:d.last<1000000000) (hkeys:∀x∈d.waits,x.1≤(d.last:Int)) (i:Int) (hi:d.has i) (s:ByteArray) (hs:s.size=64) :
 Calls Tryz.prog 235 #[pt B,.int .i64 0,.int .i64 0,.int .i64 i,.string s] w fun e w'=>e = .returned (.tuple #[.int .i64 ((d.last+1:Nat):Int),.int .i64 0])∧DiskAt w' base B (toldW d i s) D∧q20z w D w':=by
 have his:=fun W:World=>issuer_any W
 have hwr:=diskWrong_any h i s
 have hc:d.layC i s=0:=by unfold Sp.Disk.layC; rw[if_pos hi,if_pos hs]
 rw[hc] at hwr
 have hpa:=diskPasses_any h hf
 obtain⟨wm,cw,hm,hDw,hBw,-⟩:=h.waitsSet (l:=d.waits)
 have hln:=fun ty=>IM.run_len (P:=Tryz.prog) (ty:=ty) (T:=196) (by kernel_rfl) hm
 have c2:w.cell? ⟨B,2,none⟩=some (.int .i64 (d.last:Int)):=by
  obtain⟨⟨v,wm',h1,_⟩,_,_⟩:=h
  exact cellOf (k:=2) h1 rfl
 have hBl:B<w.heap.size:=by
  obtain⟨⟨v,wm',h1,_⟩,_,_⟩:=h
  exact(Array.getElem?_eq_some_iff.1 h1).1
 have hfz:∀W,Below w.heap.size w W→W.frozen? ⟨B,2,none⟩=false:=fun W hW=>by
  obtain⟨⟨v,wm',h1,_⟩,_,_⟩:=h
  exact q4z (q1z hW h1)
 obtain⟨ln,hlnn⟩:∃n,d.waits.length=n:=⟨_,rfl⟩
 rw[hlnn] at hln hfew
 have q1:decide ((ln:Int)≥1024)=false:=decide_eq_false (by omega)
 have e1:IntKind.i64.wrap ((d.last:Int)+1)=((d.last+1:Nat):Int):=by rw[IntWalk.i64_in _ (by omega)]; omega
 have hst:∀W W4,Below w.heap.size w W→Below (W.setCell ⟨B,2,none⟩ (.int .i64 ((d.last+1:Nat):Int))).heap.size (W.setCell ⟨B,2,none⟩ (.int .i64 ((d.last+1:Nat):Int))) W4→∃wm2,W4.cell? ⟨B,1,none⟩=some (.map (some wm2))∧W4.cell? ⟨B,2,none⟩=some (.int .i64 ((d.last+1:Nat):Int)) ∧
  ∃o',(Instr.mapUpdate 196 (.map (some wm2)) (.int .i64 ((d.last+1:Nat):Int)) (.agg #[.int .i64 0,.int .i64 0,.int .i64 i,.string s])).run Tryz.prog W4 = .ok () (ChangeMaps.setBlock W4 wm2 o') ∧
   (ChangeMaps.setBlock W4 wm2 o').cell? ⟨B,2,none⟩=some (.int .i64 ((d.last+1:Nat):Int))∧DiskAt (ChangeMaps.setBlock W4 wm2 o') base B (toldW d i s) D∧q20z w D (ChangeMaps.setBlock W4 wm2 o'):=fun W W4 hW hW4=>by
  obtain⟨hd0,ht1⟩:=(h.below hW).lastSet (d.last+1)
  have hd1:=hd0.below hW4
  obtain⟨wm2,k1,m2,_,hne2,hset⟩:=hd1.waitsSet (l:=d.waits ++ [(((d.last+1:Nat):Int),⟨0,0,i,s⟩)])
  obtain⟨o',hup,ho'⟩:=IM.run_update (P:=Tryz.prog) (T:=196) Tryz.underlying196 Tryz.underlying3 m2 ((d.last+1:Nat):Int) (⟨0,0,i,s⟩:Wr)
  have hno:IM.getM d.waits ((d.last+1:Nat):Int)=none:=by
   unfold IM.getM
   rw[List.find?_eq_none.2 (fun x hx=>by
    rw[decide_eq_true_iff]
    have:=hkeys x hx
    omega)]
   rfl
  have hsm:IM.setM d.waits ((d.last+1:Nat):Int) (⟨0,0,i,s⟩:Wr)=d.waits ++ [(((d.last+1:Nat):Int),⟨0,0,i,s⟩)]:=by
   unfold IM.setM
   rw[hno]
   rfl
  rw[hsm] at ho'
  obtain⟨r1,r2⟩:=hset o' ho'
  have hB2:∃v wm',W4.heap[B]? = some (diskO v wm' (d.last+1)):=by
   obtain⟨⟨v,wm',h1,_⟩,_,_⟩:=hd1
   exact⟨v,wm',h1⟩
  obtain⟨v2,wm',h12⟩:=hB2
  have hk2:W4.cell? ⟨B,2,none⟩=some (.int .i64 ((d.last+1:Nat):Int)):=cellOf (k:=2) h12 rfl
  refine⟨wm2,k1,hk2,o',hup,cellOf (k:=2) ((q123z (w:=W4) (m:=wm2) (o:=o')).heap h12 hne2) rfl,r1,q20z.trans hD (q20z.of_below hW) (q20z.trans (fun j hj=>Nat.lt_of_lt_of_le (hD j hj) hW.size) ht1 (q20z.trans (fun j hj=>?_) (q20z.of_below hW4) r2))⟩
  have:=hD j hj
  have:=hW.size
  have:=ht1.size
  omega
 obtain⟨NN,hNN⟩:∃z:Int,((d.last+1:Nat):Int)=z:=⟨_,rfl⟩
 rw[hNN] at e1 hst ⊢
 obtain⟨d',hd'⟩:∃d',toldW d i s=d':=⟨_,rfl⟩
 rw[hd'] at hst ⊢
 obtain⟨dl,hdl⟩:∃z:Int,(d.last:Int)=z:=⟨_,rfl⟩
 rw[hdl] at e1 c2
 unfold pt at hwr hpa ⊢
 have HIS:=Lib.hid his
 have HWR:=Lib.hid hwr
 have HPA:=Lib.hid hpa
 have HST:=Lib.hid hst
 have HFZ:=Lib.hid hfz
 clear his hwr hpa hst hfz
 clear h hD hf hkeys hi hs hc hm hDw hBw hlnn hNN hd' hdl hlast
 go_enter Tryz.func235,Tryz.ntmps235
 go_wp2_with fail
 refine(HIS.out _).mono ?_
 rintro e w1 ⟨rfl,hw1⟩
 subst hw1
 go_wp2_with fail
 refine HWR.out.mono ?_
 rintro e w2 ⟨rfl,hw2⟩
 subst hw2
 have hln1:=hln
 go_wp2_with fail
 refine HPA.out.mono ?_
 rintro e w3 ⟨rfl,hb3⟩
 have x2:=(hb3.cell (p:=⟨B,2,none⟩) hBl).trans c2
 have f2:=HFZ.out w3 hb3
 obtain⟨W4,hW4⟩:∃W,w3.setCell ⟨B,2,none⟩ (.int .i64 NN)=W:=⟨_,rfl⟩
 have hst3:=HST.out w3 W4.drew hb3
 rw[hW4] at hst3
 obtain⟨wm2,y1,y2,o',hup,y3,hda,hdt⟩:=hst3 (blD (Below.refl _ _))
 have HE:Hid (DiskAt (ChangeMaps.setBlock W4.drew wm2 o') base B d' D∧q20z w2 D (ChangeMaps.setBlock W4.drew wm2 o')):=⟨hda,hdt⟩
 clear hda hdt hb3 c2 cw hln hln1 hst3
 go_upto_region 12 with fail
 clear x2 f2 hW4
 have hSd:W4.drew.cell? ⟨B,1,none⟩=some (.map (some wm2))∧W4.drew.cell? ⟨B,2,none⟩=some (.int .i64 NN):=⟨y1,y2⟩
 refine q22z (fun W=>W.cell? ⟨B,1,none⟩=some (.map (some wm2))∧W.cell? ⟨B,2,none⟩=some (.int .i64 NN)) 13 (by kernel_rfl) (by first | trivial | assumption) (fun hHeld hX0=>?_)
 refine tkU 0 ?_; clear hX0; intro hX0; simp only[Act.put,ps0]
 refine tkU 1 ?_; clear hX0; intro hX0; simp only[Act.put,ps0]
 refine tkU 2 ?_; clear hX0; intro hX0; simp only[Act.put,ps0]
 refine tkU 3 ?_; clear hX0; intro hX0; simp only[Act.put,ps0]
 refine tkU 4 ?_; clear hX0; intro hX0; simp only[Act.put,ps0]
 refine tkU 5 ?_; clear hX0; intro hX0; simp only[Act.put,ps0]
 refine tkU 6 ?_; clear hX0; intro hX0; simp only[Act.put,ps0]
 refine tkU 7 ?_; clear hX0; intro hX0; simp only[Act.put,ps0]
 refine tkU 8 ?_; clear hX0; intro hX0; simp only[Act.put,ps0]
 refine tkU 9 ?_; clear hX0; intro hX0; simp only[Act.put,ps0]
 refine tkU 10 ?_; clear hX0; intro hX0; simp only[Act.put,ps0]
 refine tkU 11 ?_; clear hX0; intro hX0; simp only[Act.put,ps0]
 refine tkU 12 ?_; clear hX0; intro hX0; simp only[Act.put,ps0]
 refine AnyU.each (is:=[13]) (by kernel_rfl) (by simp) (EachU.cons hX0 (by kernel_rfl) rfl (fun K hK=>?_) EachU.nil)
 try simp only[gg0]
 go_simp
 try simp only
 refine hK.out _ _ (fun h=>absurd h (by decide)) (fun _ hX1=>?_)
 clear hK K hX0; have hX0:=hX1; clear hX1
 try simp only[Act.put,ps0]
 refine AnyU.done (by kernel_rfl) ?_ _
 clear hSd hHeld hX0 y1 y2 hup
 go_wp2
 go_ret2
 exact⟨rfl,HE.out⟩
def landD (d:Sp.Disk) (n:Int) (k:Nat) (s:ByteArray):Sp.Disk:=⟨d.l.set k s,without d.waits n,d.last⟩
theorem wr_lookup {W:World} {wm:Nat} {l:List (Int×Wr)} (hm:IM.MapAt wrV W wm l) {n:Int} {x:Wr} (hx:IM.getM l n=some x):(Instr.lookup 196 (.map (some wm)) (.int .i64 n) true).run Tryz.prog W = .ok (.tuple #[.agg #[.int .i64 x.node,.int .i64 x.epoch,.int .i64 x.at_,.string x.s],.bool true]) W:=by
 have:=IM.run_lookup2 (P:=Tryz.prog) (T:=196) Tryz.underlying196 Tryz.underlying3 (z:=.agg #[.int .i64 0,.int .i64 0,.int .i64 0,.string ⟨#[]⟩]) (by kernel_rfl) hm n
 rw[hx] at this
 exact this
theorem diskApply_any {w:World} {base B:Nat} {d:Sp.Disk} {D:Nat→Prop} (h:DiskAt w base B d D) (hD:∀j,D j→j<w.heap.size) (hf:d.l[1]? = some (wallB 0 0)) (n:Int) (k:Nat) (s:ByteArray) (hx:IM.getM d.waits n=some ⟨0,0,(k:Int),s⟩) (hk:k<d.l.length) :
 Calls Tryz.prog 89 #[pt B,.int .i64 n] w fun e w'=>e = .returned (.tuple #[.bool true,.int .i64 0])∧DiskAt w' base B (landD d n k s) D∧q20z w D w':=by
 obtain⟨wm,cw,hm,hDw,hBw,-⟩:=h.waitsSet (l:=d.waits)
 have hlk:=wr_lookup hm hx
 have hBl:B<w.heap.size:=by
  obtain⟨⟨v,wm',h1,_⟩,_,_⟩:=h
  exact(Array.getElem?_eq_some_iff.1 h1).1
 have hst:∀W,Below w.heap.size w W→∃wm2,W.cell? ⟨B,1,none⟩=some (.map (some wm2))∧∃o',(Builtin.delete_ #[196,3] 0 #[.map (some wm2),.int .i64 n]).run Tryz.prog W = .ok (.tuple #[]) (ChangeMaps.setBlock W wm2 o') ∧
  Turn (fun j=>j=wm2) W (ChangeMaps.setBlock W wm2 o')∧wm2<w.heap.size∧B≠wm2 ∧
  DiskAt (ChangeMaps.setBlock W wm2 o') base B ⟨d.l,without d.waits n,d.last⟩ D∧q20z w D (ChangeMaps.setBlock W wm2 o'):=fun W hW=>by
  obtain⟨wm2,k1,m2,hD2,hne2,hset⟩:=(h.below hW).waitsSet (l:=without d.waits n)
  obtain⟨o',hup,ho'⟩:=IM.run_delete (P:=Tryz.prog) (T:=196) (ty:=0) Tryz.underlying196 Tryz.underlying3 m2 n
  obtain⟨r1,r2⟩:=hset o' ho'
  exact⟨wm2,k1,o',hup,q123z,hD wm2 hD2,hne2,r1,q20z.trans hD (q20z.of_below hW) r2⟩
 have hend:∀W,DiskAt W base B ⟨d.l,without d.waits n,d.last⟩ D→q20z w D W→∃g cap,W.cell? ⟨B,0,none⟩=some (.slice (some ⟨g,0,none⟩) d.l.length cap)∧(∃y,W.cell? ⟨g,k,none⟩=some y)∧W.frozen? ⟨g,k,none⟩=false ∧
  DiskAt (W.setCell ⟨g,k,none⟩ (.string s)) base B (landD d n k s) D∧q20z w D (W.setCell ⟨g,k,none⟩ (.string s)):=fun W hW hT=>by
  obtain⟨g,cap,k1,k2,k3,k4,_,k5,k6,k7⟩:=lay_stored hW hk s
  obtain⟨y,hy⟩:=Option.isSome_iff_exists.1 k2
  refine⟨g,cap,k1,⟨y,hy⟩,k3,k6,q20z.trans hD hT ⟨fun j=>j=g,fun j e=>e ▸ k4,fun j e=>?_,k7⟩⟩
  obtain⟨cs,fr,he⟩:=k5 j e
  exact Or.inl ⟨cs,fr,_,he,Or.inr rfl⟩
 have hpa:=fun(W:World) (hW:DiskAt W base B ⟨d.l,without d.waits n,d.last⟩ D)=>diskPasses_any hW hf
 obtain⟨N,hN⟩:∃N,d.l.length=N:=⟨_,rfl⟩
 rw[hN] at hend hk
 obtain⟨d',hd'⟩:∃d',landD d n k s=d':=⟨_,rfl⟩
 rw[hd'] at hend ⊢
 obtain⟨dm,hdm⟩:∃dm:Sp.Disk,(⟨d.l,without d.waits n,d.last⟩:Sp.Disk)=dm:=⟨_,rfl⟩
 rw[hdm] at hst hend hpa
 have hki:(k:Int)<(N:Int):=by omega
 unfold pt at hpa ⊢
 have HD:=Lib.hid hD
 have HST:=Lib.hid hst
 have HEND:=Lib.hid hend
 have HPA:=Lib.hid hpa
 clear hst hend hpa
 clear h hD hf hm hDw hBw hx hN hd' hdm
 go_enter Tryz.func89,Tryz.ntmps89
 obtain⟨W1,hW1⟩:∃W,w.alloc (.cells #[.int .i64 0,.int .i64 0,.int .i64 (k:Int),.string s] 252)=W:=⟨_,rfl⟩
 have hb1:Below w.heap.size w W1:=by rw[←hW1]; exact bl2 _
 have hz1:W1.heap[w.heap.size]? = some (.cells #[.int .i64 0,.int .i64 0,.int .i64 (k:Int),.string s] 252 (0,0)):=by rw[←hW1]; exact q3z w _
 obtain⟨wm2,y1,o',hup,hT2,hlt2,hne2,hda,hdt⟩:=HST.out W1 hb1
 obtain⟨W2,hW2⟩:∃W,ChangeMaps.setBlock W1 wm2 o' = W:=⟨_,rfl⟩
 rw[hW2] at hup hT2 hda hdt
 have hz2:=hT2.heap hz1 (by omega)
 have x0:=cellOf (k:=0) hz2 rfl
 have x1:=cellOf (k:=1) hz2 rfl
 have HZ2:=Lib.hid hz2
 have HD2:=Lib.hid hda
 have HT2:=Lib.hid hdt
 have HS2:Hid (w.heap.size<W2.heap.size):=(Array.getElem?_eq_some_iff.1 hz2).1
 clear hb1 hz1 hT2 hda hdt hz2 HST
 go_wp2_with fail
 clear x0 x1 y1 hup hlk cw hW1 hW2
 refine(HPA.out W2 HD2.out).mono ?_
 rintro e w3 ⟨rfl,hb3⟩
 have HZ3:=Lib.hid (q1z hb3 HZ2.out)
 have hb4:Below W2.heap.size W2 w3.drew:=blD hb3
 obtain⟨g,cap,c0,⟨y,hy⟩,hfz,hda,hdt⟩:=HEND.out w3.drew (HD2.out.below hb4) (q20z.trans HD.out HT2.out (q20z.of_below hb4))
 have HE:Hid (DiskAt (w3.drew.setCell ⟨g,k,none⟩ (.string s)) base B d' D∧q20z w D (w3.drew.setCell ⟨g,k,none⟩ (.string s))):=⟨hda,hdt⟩
 have z2:=cellOf (k:=2) (show w3.drew.heap[w.heap.size]? = _ from HZ3.out) rfl
 have z3:=cellOf (k:=3) (show w3.drew.heap[w.heap.size]? = _ from HZ3.out) rfl
 clear hb3 hb4 hda hdt HEND HPA
 go_upto_region 7 with fail
 have hSd:w3.drew.cell? ⟨B,0,none⟩=some (.slice (some ⟨g,0,none⟩) N cap)∧w3.drew.cell? ⟨w.heap.size,2,none⟩=some (.int .i64 (k:Int))∧w3.drew.cell? ⟨w.heap.size,3,none⟩=some (.string s):=⟨c0,z2,z3⟩
 refine q22z (fun W=>W.cell? ⟨B,0,none⟩=some (.slice (some ⟨g,0,none⟩) N cap)∧W.cell? ⟨w.heap.size,2,none⟩=some (.int .i64 (k:Int))∧W.cell? ⟨w.heap.size,3,none⟩=some (.string s)) 9 (by kernel_rfl) (by first | trivial | assumption) (fun hHeld hX0=>?_)
 refine tkU 0 ?_; clear hX0; intro hX0; simp only[Act.put,ps0]
 refine tkU 1 ?_; clear hX0; intro hX0; simp only[Act.put,ps0]
 refine tkU 2 ?_; clear hX0; intro hX0; simp only[Act.put,ps0]
 refine tkU 3 ?_; clear hX0; intro hX0; simp only[Act.put,ps0]
 refine tkU 4 ?_; clear hX0; intro hX0; simp only[Act.put,ps0]
 refine tkU 5 ?_; clear hX0; intro hX0; simp only[Act.put,ps0]
 refine tkU 6 ?_; clear hX0; intro hX0; simp only[Act.put,ps0]
 refine tkU 7 ?_; clear hX0; intro hX0; simp only[Act.put,ps0]
 refine tkU 8 ?_; clear hX0; intro hX0; simp only[Act.put,ps0]
 refine AnyU.each (is:=[9]) (by kernel_rfl) (by simp) (EachU.cons hX0 (by kernel_rfl) rfl (fun K hK=>?_) EachU.nil)
 try simp only[gg0]
 go_simp
 try simp only
 refine hK.out _ _ (fun h=>absurd h (by decide)) (fun _ hX1=>?_)
 clear hK K hX0; have hX0:=hX1; clear hX1
 try simp only[Act.put,ps0]
 refine AnyU.done (by kernel_rfl) ?_ _
 clear hSd hHeld hX0 c0 z2 z3 hy hfz
 go_wp2
 go_ret2
 exact⟨rfl,HE.out⟩
def dropD (d:Sp.Disk) (n:Int):Sp.Disk:=⟨d.l,without d.waits n,d.last⟩
theorem diskDrop_any {w:World} {base B:Nat} {d:Sp.Disk} {D:Nat→Prop} (h:DiskAt w base B d D) (hD:∀j,D j→j<w.heap.size) (n:Int) (x:Wr) (hx:IM.getM d.waits n=some x) :
 Calls Tryz.prog 91 #[pt B,.int .i64 n] w fun e w'=>e = .returned (.int .i64 0)∧DiskAt w' base B (dropD d n) D∧q20z w D w':=by
 obtain⟨wm,cw,hm,hDw,hBw,-⟩:=h.waitsSet (l:=d.waits)
 have hlk:=wr_lookup hm hx
 have hBl:B<w.heap.size:=by
  obtain⟨⟨v,wm',h1,_⟩,_,_⟩:=h
  exact(Array.getElem?_eq_some_iff.1 h1).1
 have hst:∀W,Below w.heap.size w W→∃wm2,W.cell? ⟨B,1,none⟩=some (.map (some wm2))∧∃o',(Builtin.delete_ #[196,3] 0 #[.map (some wm2),.int .i64 n]).run Tryz.prog W = .ok (.tuple #[]) (ChangeMaps.setBlock W wm2 o') ∧
  DiskAt (ChangeMaps.setBlock W wm2 o') base B (dropD d n) D∧q20z w D (ChangeMaps.setBlock W wm2 o'):=fun W hW=>by
  obtain⟨wm2,k1,m2,hD2,hne2,hset⟩:=(h.below hW).waitsSet (l:=without d.waits n)
  obtain⟨o',hup,ho'⟩:=IM.run_delete (P:=Tryz.prog) (T:=196) (ty:=0) Tryz.underlying196 Tryz.underlying3 m2 n
  obtain⟨r1,r2⟩:=hset o' ho'
  exact⟨wm2,k1,o',hup,r1,q20z.trans hD (q20z.of_below hW) r2⟩
 obtain⟨xn,xe,xa,xs⟩:=x
 dsimp only at hlk
 unfold pt
 have HST:=Lib.hid hst
 clear hst
 clear h hD hm hDw hBw hx
 go_enter Tryz.func91,Tryz.ntmps91
 obtain⟨W1,hW1⟩:∃W,w.alloc (.cells #[.int .i64 xn,.int .i64 xe,.int .i64 xa,.string xs] 252)=W:=⟨_,rfl⟩
 have hb1:Below w.heap.size w W1:=by rw[←hW1]; exact bl2 _
 obtain⟨wm2,y1,o',hup,hda,hdt⟩:=HST.out W1 hb1
 have HE:Hid (DiskAt (ChangeMaps.setBlock W1 wm2 o') base B (dropD d n) D∧q20z w D (ChangeMaps.setBlock W1 wm2 o')):=⟨hda,hdt⟩
 clear hb1 hda hdt HST
 go_wp2
 go_ret
 exact⟨rfl,HE.out⟩
end
end Go.Proofs.YtgofmnhfajmbfaaGreatDoor
