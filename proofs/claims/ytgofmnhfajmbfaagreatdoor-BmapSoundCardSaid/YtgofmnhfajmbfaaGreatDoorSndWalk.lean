import Derived.Test.YtgofmnhfajmbfaaGreatDoorReadsMem
namespace Go.Proofs.YtgofmnhfajmbfaaGreatDoor
open Go Go.RowKit Txt Sp
structure SoundP (g:Sp.Geom) (S:Sp.Side) (fs:Int→File):Prop where
 st:∀n,1≤n→n≤g.groups*g.inodes→Stands (rawS S) g n (fs n)
 once:∀n m,n≠m→∀b∈(fs n).all,b∉(fs m).all
 bits:∀n,∀b∈(fs n).all,∃k p,InG g k p∧b=q2z g k p∧bitAt (S.disk.read (q3z g k true)) p=1
 maps:∀k,0≤k∧k<g.groups→mapC (S.disk.read (q3z g k true)) g.blocks=0
def q90z (n:Int):File:=if n=1 then⟨2,1,0,1,1,List.replicate 40 0,0⟩ else⟨0,0,0,0,0,List.replicate 40 0,0⟩
theorem other_node (n:Int):q28z (q90z n).node=if n=1 then q28z rootN else Sp.blank:=by
 unfold q90z
 split
 ·rfl
 ·decide +kernel
theorem other_all (n:Int):(q90z n).all=[]:=by
 unfold q90z
 split <;> decide
theorem q117z {g:Sp.Geom} (hg:g.ok) {n m:Int} (h:q1z g n=q1z g m):n=m:=by
 have hl:g.long=2+g.inodes+g.blocks:=rfl
 have hi:=hg.2.2.1
 have hb:=hg.2.2.2.2.1
 have r0:0≤(n-1) % g.inodes:=Int.emod_nonneg _ (by omega)
 have r1:(n-1) % g.inodes<g.inodes:=Int.emod_lt_of_pos _ (by omega)
 have s0:0≤(m-1) % g.inodes:=Int.emod_nonneg _ (by omega)
 have s1:(m-1) % g.inodes<g.inodes:=Int.emod_lt_of_pos _ (by omega)
 have h2:g.first ((n-1) / g.inodes)+(2+(n-1) % g.inodes)=g.first ((m-1) / g.inodes)+(2+(m-1) % g.inodes):=by unfold q1z at h; omega
 obtain⟨e1,e2⟩:=sec_off (by omega) (by omega) h2
 have d1:=Int.mul_ediv_add_emod (n-1) g.inodes
 have d2:=Int.mul_ediv_add_emod (m-1) g.inodes
 rw[e1] at d1
 omega
theorem other_sec {g:Sp.Geom} (hg:g.ok) (h3:3≤g.inodes) {n:Int} (h1:1≤n) (h2:n≤g.groups*g.inodes) (n2:n≠2) (n3:n≠3):(plainS (laid16L g) 0 0).read (q1z g n)=q28z (q90z n).node:=by
 have hin:=q65z hg h1 h2
 rw[(laid16_read (node:=0) (epoch:=0) hg h3 hin.1 hin.2).2,other_node]
 have hm:q1z g n≠g.first 0:=fun e=>q21z hg (i:=n) 0 false (by rw[e]; unfold q3z; simp)
 have hf0:=Geom.first_bd hg (k:=0) (by omega) (by have:=hg.1; omega)
 have hgi:=in16 hg h3
 have e1:q1z g 1=g.first 0+2:=by
  unfold q1z
  rw[show(1:Int)-1=0 by omega,Int.zero_ediv,Int.zero_emod]
  omega
 have hno:=inode_notOne hg h1
 have hk:0≤(n-1) / g.inodes:=Int.ediv_nonneg (by omega) (by have:=hg.2.2.1; omega)
 have hft:=q159z hg hk
 have hnz:q1z g n≠0:=by
  have:0≤(n-1) % g.inodes:=Int.emod_nonneg _ (by have:=hg.2.2.1; omega)
  unfold q1z
  omega
 unfold sec16
 rw[if_neg hm,if_neg (fun h=>h.elim (fun e=>n2 (q117z hg e)) (fun e=>n3 (q117z hg e)))]
 unfold secAt
 rw[if_neg hnz,if_neg hno,if_neg hm]
 by_cases e:n=1
 ·rw[if_pos (by rw[e,e1]),if_pos e]
 ·rw[if_neg (fun h=>e (q117z hg (h.trans e1.symm))),if_neg e]
section
variable {g:Sp.Geom} {S:Sp.Side} {F G FK GK:File} {A:AllT}
theorem half_stands {n:Int} (hg:g.ok) (hf:S.Fl) (hd:S.disk.l.length=g.size.toNat) (h1:1≤n) (h2:n≤g.groups*g.inodes) (h:HalfV g n F A S.disk.read FK):Stands (rawS S) g n FK:=by
 have hhas:∀s:Int,0≤s→s<g.size→S.disk.has s:=fun s a b=>⟨a,by rw[hd]; omega⟩
 have hin:=q65z hg h1 h2
 have hblk:∀b,b=FK.more∨b∈FK.blocks→q22z g b∧(b≠0→S.disk.has b):=fun b hb=>by
  by_cases h0:b=0
  ·exact⟨Or.inl h0,fun h=>absurd h0 h⟩
  ·obtain⟨k,p,hin,e,_⟩:=h.blk b (q6z.2 ⟨hb,h0⟩)
   have hp:0≤(p:Int)∧(p:Int)<g.blocks:=⟨by omega,hin.2⟩
   have hk:=q67z hg hin.1 hp
   rw[e]
   exact⟨block_ok hg hin.1 hp,fun _=>hhas _ hk.1 hk.2.1⟩
 refine⟨hg,raw_ok hf,h1,h2,hhas _ hin.1 hin.2,by rw[raw_read hf]; exact h.file,⟨by show 0≤FK.gen; rw[h.gen]; decide,by show FK.gen≤65535; rw[h.gen]; decide,by show 0≤FK.links; rw[h.links]; decide,by show FK.links≤255; rw[h.links]; decide,h.size.1,h.size.2,Or.inr (Or.inl ⟨h.kind,h.parent,fun b hb=>(hblk b (Or.inr (List.mem_of_mem_take hb))).1,(hblk _ (Or.inl rfl)).1⟩)⟩,fun hm=>(hblk _ (Or.inl rfl)).2 hm,fun b hb=>(hblk b (Or.inr hb)).1⟩
theorem other_stands {n:Int} (hg:g.ok) (hf:S.Fl) (hd:S.disk.l.length=g.size.toNat) (h1:1≤n) (h2:n≤g.groups*g.inodes) (hs:S.disk.read (q1z g n)=q28z (q90z n).node):Stands (rawS S) g n (q90z n):=by
 have hin:=q65z hg h1 h2
 have hz:(q90z n).blocks=List.replicate 40 0∧(q90z n).more=0:=by unfold q90z; split <;> exact⟨rfl,rfl⟩
 have hm:(q90z n).node.fits g:=by
  have hgi:1≤g.many:=by rw[Geom.many_ok hg]; omega
  have h0:q22z g 0:=Or.inl rfl
  unfold q90z
  split
  ·exact⟨by decide,by decide,by decide,by decide,by decide,by decide,Or.inr (Or.inr ⟨rfl,by decide,by decide,hgi,fun b hb=>by rw[List.eq_of_mem_replicate (n:=8) hb]; exact h0,h0⟩)⟩
  ·exact⟨by decide,by decide,by decide,by decide,by decide,by decide,Or.inl ⟨rfl,rfl,rfl,rfl,fun b hb=>List.eq_of_mem_replicate (n:=8) hb,rfl⟩⟩
 refine⟨hg,raw_ok hf,h1,h2,⟨hin.1,by show q1z g n<(S.disk.l.length:Int); rw[hd]; omega⟩,?_,hm,fun h=>absurd hz.2 h,fun b hb=>?_⟩
 ·rw[raw_read hf]
  exact⟨by rw[hz.1]; rfl,hs,fun _=>by rw[hz.1]; rfl,fun h=>absurd hz.2 h,by rw[other_all]; exact List.nodup_nil,by rw[other_all]; exact List.not_mem_nil⟩
 ·rw[hz.1] at hb
  exact Or.inl (List.eq_of_mem_replicate hb)
theorem crash_sound (hg:g.ok) (h3:3≤g.inodes) (hf:S.Fl) (hd:S.disk.l.length=g.size.toNat) (c:CrashV g 2 3 F G (plainS (laid16L g) 0 0).read A S.disk.read FK GK):SoundP g S (fun n=>if n=2 then FK else if n=3 then GK else q90z n):=by
 have hgi:=in16 hg h3
 refine⟨fun n h1 h2=>?_,fun n m hnm b hb hb2=>?_,fun n b hb=>?_,c.maps⟩
 ·split
  ·rename_i e
   subst e
   exact half_stands hg hf hd h1 h2 c.f
  ·split
   ·rename_i e
    subst e
    exact half_stands hg hf hd h1 h2 c.s
   ·rename_i n2 n3
    refine other_stands hg hf hd h1 h2 ?_
    rw[c.rest _ (fun k=>q21z hg k true) (fun e=>n2 (q117z hg e)) (fun e=>n3 (q117z hg e)) (fun k p hin=>q27z hg ⟨by omega,hin.2⟩)]
    exact other_sec hg h3 h1 h2 n2 n3
 ·have ho:∀n,b∈(q90z n).all→False:=fun n h=>by rw[other_all] at h; exact absurd h List.not_mem_nil
  by_cases a1:n=2
  ·rw[if_pos a1] at hb
   rw[if_neg (by omega)] at hb2
   split at hb2
   ·exact c.dis b hb hb2
   ·exact ho _ hb2
  ·rw[if_neg a1] at hb
   by_cases a2:n=3
   ·rw[if_pos a2] at hb
    split at hb2
    ·exact c.dis b hb2 hb
    ·rw[if_neg (by omega)] at hb2
     exact ho _ hb2
   ·rw[if_neg a2] at hb
    exact ho _ hb
 ·split at hb
  ·exact c.f.blk b hb
  ·split at hb
   ·exact c.s.blk b hb
   ·rw[other_all] at hb
    exact absurd hb List.not_mem_nil
theorem texts_sound (hg:g.ok) (h3:3≤g.inodes) {t0 t1:List UInt8} {m:Nat} (h:Texts2 g S t0 t1 m):∃fs,SoundP g S fs:=by
 obtain⟨F,G,Y,r,hb,_,_,_,hl⟩:=h
 obtain⟨FK,GK,c⟩:=hl.kept.2.now
 exact⟨_,crash_sound hg h3 hb.fl hb.a.dlen c⟩
theorem texts_sound_end (hg:g.ok) (h3:3≤g.inodes) {S':Sp.Side} {t0 t1:List UInt8} {m:Nat} (h:Texts2 g S t0 t1 m) (hs:S.Stay S') (h0:S'.deps.l=[]):∃fs,SoundP g S' fs:=by
 obtain⟨F,G,Y,r,hb,_,_,_,hl⟩:=h
 obtain⟨FK,GK,c⟩:=hl.kept.2 _ (adm_all NoP S.deps.l)
 have e:S.part (fun _=>true)=S'.disk.read:=by
  rw[part_all hb.fl.ok]
  funext j
  rw[←hs.read j]
  exact drained_read hs.fl h0 j
 rw[e] at c
 exact⟨_,crash_sound hg h3 hs.fl (by rw[hs.dlen]; exact hb.a.dlen) c⟩
end
structure SM (w:World) (g:Sp.Geom) (B Bd m:Nat) (S:Sp.Side) (D:Nat→Prop) (X:List Int) (wr:World):Prop where
 bel:Below w.heap.size w wr
 box:wr.heap[w.heap.size]? = some (.cells #[.int .i64 g.groups,.int .i64 g.inodes,.int .i64 g.blocks] 23 (0,0))
 side:SideAt wr 0 B Bd (rawS S) D
 map:IM.MapAt truV wr m (truE X)
 mlt:w.heap.size<m
 nD:∀j,D j→j<m
section
variable {w wr wr':World} {g:Sp.Geom} {B Bd m:Nat} {S:Sp.Side} {D:Nat→Prop} {X X':List Int}
theorem SM.below (h:SM w g B Bd m S D X wr) (hb:Below wr.heap.size wr wr'):SM w g B Bd m S D X wr':=
 ⟨blN h.bel hb,heapOld hb h.box,h.side.below hb,h.map.old (hb.block _ h.map.lt),h.mlt,h.nD⟩
theorem SM.turn (h:SM w g B Bd m S D X wr) (hT:Turn (fun j=>j=m) wr wr') (hm:IM.MapAt truV wr' m (truE X')):SM w g B Bd m S D X' wr':=by
 have hml:=h.mlt
 exact⟨h.bel.trans (hT.below (fun j e=>by omega) h.bel.size),hT.heap h.box (by omega),h.side.turn hT (fun k hk e=>by have:=h.nD k hk; omega) (fun _ _=>Nat.zero_le _),hm,h.mlt,h.nD⟩
end
theorem place_in {g:Sp.Geom} (hg:g.ok) {k:Int} {p:Nat} (hin:InG g k p):q83z g (q2z g k p)=(k,(p:Int),0):=by
 have hp:0≤(p:Int)∧(p:Int)<g.blocks:=⟨by omega,hin.2⟩
 obtain⟨hb0,hb1,hkd⟩:=q67z hg hin.1 hp
 have hc:q43z g (q2z g k p)=0:=by
  unfold q43z
  rw[if_pos hg,if_neg (by omega),hkd,if_pos rfl]
 have e1:(k*g.blocks+(p:Int)) / g.blocks=k:=by rw[Int.add_comm,Int.add_mul_ediv_right _ _ (by omega),Int.ediv_eq_zero_of_lt hp.1 hp.2]; omega
 have e2:(k*g.blocks+(p:Int)) % g.blocks=p:=by rw[Int.add_comm,Int.add_mul_emod_self_right,Int.emod_eq_of_lt hp.1 hp.2]
 unfold q83z
 rw[if_pos hc,hkd]
 dsimp only
 rw[e1,e2]
theorem map_inG {g:Sp.Geom} (hg:g.ok) {k:Int} (hk:0≤k∧k<g.groups):mapAt g k true=(q3z g k true,0):=by
 have hw:g.within k g.groups=0:=by
  unfold Sp.Geom.within
  rw[if_pos hg,if_neg (by omega)]
 unfold mapAt
 rw[if_pos hw]
 rfl
theorem once_row {S:Int→ByteArray} {s:Int} {F:File} (h:FileOk S s F) {q:Nat} {b:Int} (hq:(F.blocks ++ [F.more])[q]? = some b) (h0:b≠0):b∈F.all∧b∉(F.blocks ++ [F.more]).take q:=by
 have hn:=h.nod
 have hp:(F.blocks ++ [F.more]).Perm (F.more :: F.blocks):=List.perm_append_singleton ..
 have hn2:((F.blocks ++ [F.more]).filter (fun b=>decide (b≠0))).Nodup:=(hp.filter _).symm.nodup hn
 have hm:b∈F.blocks ++ [F.more]:=List.mem_of_getElem? hq
 refine⟨q6z.2 ⟨(List.mem_append.1 hm).elim Or.inr (fun h=>Or.inl (List.mem_singleton.1 h)),h0⟩,fun ht=>?_⟩
 obtain⟨hl,e⟩:=List.getElem?_eq_some_iff.1 hq
 have hd:b∈(F.blocks ++ [F.more]).drop q:=by
  rw[List.drop_eq_getElem_cons hl,e]
  exact List.mem_cons_self ..
 rw[←List.take_append_drop q (F.blocks ++ [F.more]),List.filter_append] at hn2
 exact(List.nodup_append.1 hn2).2.2 b (List.mem_filter.2 ⟨ht,by simpa using h0⟩) b (List.mem_filter.2 ⟨hd,by simpa using h0⟩) rfl
section
set_option maxHeartbeats 8000000
set_option maxRecDepth 20000 in
theorem sound_any {w:World} {Bd:Nat} {S:Sp.Side} {Dd:Nat→Prop} (hd:DiskAt w 0 Bd S.disk Dd) (hlt:∀j,Dd j→j<w.heap.size) {g:Sp.Geom} (hg:g.ok) {fs:Int→File} (hp:SoundP g S fs) {n:Nat} (hn:g.groups*g.inodes=(n:Int)) (hn1:n≤10000) :
 Calls Tryz.prog 25 #[pt Bd,gV g] w fun e w'=>e = .returned (.bool true)∧Below w.heap.size w w':=by
 have hmany:g.many=(n:Int):=(Geom.many_ok hg).trans hn
 have hino:=fun W:World=>ginodes_any W g
 have hpl:=fun(W:World) (s:Int)=>gplace_any W g s
 have hmp:=fun(W:World) (k:Int)=>q172z W g k true
 have htk:=fun(W:World) (k:Int) (p:Nat) (hin:InG g k p)=>mtaken_any W (S.disk.read (q3z g k true)) g.blocks p (hp.maps k hin.1) ⟨by omega,hin.2⟩
 have hplI:=fun(k:Int) (p:Nat) (hin:InG g k p)=>place_in hg hin
 have hmpI:=fun(k:Int) (p:Nat) (hin:InG g k p)=>map_inG hg hin.1
 have hstn:=fun(i:Nat) (h1:1≤i) (h2:i≤n)=>hp.st (i:Int) (by omega) (by rw[hn]; omega)
 have hmm:=@run_makeMap Tryz.prog
 have heq:=eql_soft_nil
 rw[hmany] at hino
 obtain⟨ga,gb,gc⟩:=g
 unfold gV pt
 obtain⟨W0,hW0⟩:=zg w ga gb gc
 have hk:=q30z hW0
 have HB0:=zh hk.1
 have HK:=zh hk.2
 clear hk
 have hsz:W0.heap.size=w.heap.size+1:=by rw[←hW0]; simp
 have hbx:W0.heap[w.heap.size]? = some (.cells #[.int .i64 ga,.int .i64 gb,.int .i64 gc] 23 (0,0)):=by rw[←hW0]; exact heapNew w _
 have hnew:=softNew_any (hd.below HB0.out) (Nat.zero_le _) (fun j hj=>by have:=hlt j hj; omega) 1 0 ⟨by decide,by decide⟩ ⟨by decide,by decide⟩
 have hrd:=fun(W:World) (hW:Below w.heap.size w W) (i:Int)=>diskRead_any (hd.below hW) i
 have hdl:∀j,Dd j→j<W0.heap.size:=fun j hj=>by have:=hlt j hj; omega
 unfold pt at hnew hrd
 unfold gV at hino hpl hmp
 dsimp only at hino hpl hmp htk
 have HP:=zh hp
 have HINO:=zh hino
 have HPL:=zh hpl
 have HMP:=zh hmp
 have HTK:=zh htk
 have HPLI:=zh hplI
 have HMPI:=zh hmpI
 have HNEW:=zh hnew
 have HRD:=zh hrd
 have HBX:=zh hbx
 have HDL:=zh hdl
 have HSZ:=zh hsz
 have HN1:=zh hn1
 have HSTN:=zh hstn
 clear hino hpl hmp htk hplI hmpI hnew hrd hbx hdl hsz hn1 hstn
 clear hp hn hmany hd hlt
 go_enter Tryz.func25,Tryz.ntmps25
 go_wp2_with fail
 refine HNEW.out.mono ?_
 rintro e w1 ⟨B,D,rfl,hs1,hb1,hD1⟩
 obtain⟨W2,hW2⟩:=zx (w1.alloc (.map #[] 0))
 obtain⟨m,hm⟩:=zx (w1.heap.size)
 have HM2:Hid (SM w ⟨ga,gb,gc⟩ B Bd m S D [] W2):=by
  have hb2:Below w1.heap.size w1 W2:=by rw[←hW2]; exact bl2 _
  have h1:=hb1.size
  have h2:=HSZ.out
  rw[←hm]
  refine⟨blN HB0.out (blN hb1 hb2),heapOld hb2 (heapOld hb1 HBX.out),hs1.below hb2,?_,by omega,fun j hj=>(hD1 j hj).elim (fun hj=>by have:=HDL.out j hj; omega) (fun hj=>hj.2)⟩
  have:=heapNew w1 (.map #[] 0)
  rw[←hW2]
  exact⟨_,this,IM.IsMap.new⟩
 clear hs1 hb1 hD1 HNEW HBX HDL HSZ HK hW0
 go_wp2
 clear hW2
 try rw[hm]
 clear hm
 go_loopw [8] (fun q wr=>∃(i:Nat) (X:List Int),1≤i∧i≤n+1∧q = .int .i64 (i:Int)∧Hid (SM w ⟨ga,gb,gc⟩ B Bd m S D X wr)∧Hid (∀b∈X,∃k:Nat,k<i∧b∈(fs (k:Int)).all)∧Hid (∀b∈X,b≠0)) (fun q _=>n+1-(intOf q).toNat)
 case atStart=>exact⟨1,[],Nat.le_refl _,Nat.le_add_left _ _,rfl,HM2,fun b hb=>absurd hb List.not_mem_nil,fun b hb=>absurd hb List.not_mem_nil⟩
 case round=>
  clear HM2
  obtain⟨i,X,hi1,hi2,rfl,HM,HX,HZ⟩:=hrel
  have z0:=zc 0 HM.out.box
  have z1:=zc 1 HM.out.box
  have z2:=zc 2 HM.out.box
  go_wp2_with fail
  clear z0 z1 z2
  refine(HINO.out _).mono ?_
  rintro e w3 ⟨rfl,hb3⟩
  have HM3:=zh (HM.out.below hb3)
  clear hb3 HM
  by_cases hle:i≤n
  ·have k1:decide ((i:Int)≤(n:Int))=true:=decide_eq_true (by omega)
   have hst:=HSTN.out i hi1 hle
   obtain⟨Fi,hFi⟩:=zx (fs (i:Int))
   rw[hFi] at hst
   have hl4:=bLoad_any HM3.out.side hst
   have hk4:=fun(W:World) (hW:Below w3.heap.size w3 W)=>bBlocks_any (HM3.out.side.below hW) hst
   have HFO:=zh hst.file
   obtain⟨nn,hnn⟩:=zx (Fi.node)
   rw[hnn] at hl4 hk4
   unfold gV pt nA iA at hl4 hk4
   dsimp only at hl4 hk4
   obtain⟨x0,h0⟩:=zx (nn.kind)
   obtain⟨x1,h1⟩:=zx (nn.links)
   obtain⟨x2,h2⟩:=zx (nn.size)
   obtain⟨x3,h3⟩:=zx (nn.parent)
   obtain⟨x4,h4⟩:=zx (nn.gen)
   obtain⟨d0,h5⟩:=zx (nn.direct.getD 0 0)
   obtain⟨d1,h6⟩:=zx (nn.direct.getD 1 0)
   obtain⟨d2,h7⟩:=zx (nn.direct.getD 2 0)
   obtain⟨d3,h8⟩:=zx (nn.direct.getD 3 0)
   obtain⟨d4,h9⟩:=zx (nn.direct.getD 4 0)
   obtain⟨d5,h10⟩:=zx (nn.direct.getD 5 0)
   obtain⟨d6,h11⟩:=zx (nn.direct.getD 6 0)
   obtain⟨d7,h12⟩:=zx (nn.direct.getD 7 0)
   obtain⟨x6,h13⟩:=zx (nn.more)
   rw[h0,h1,h2,h3,h4,h5,h6,h7,h8,h9,h10,h11,h12,h13] at hl4
   simp only[h0,h1,h2,h3,h4,h5,h6,h7,h8,h9,h10,h11,h12,h13] at hk4
   have HX6:Hid (Fi.more=x6):=by rw[←h13,←hnn]; rfl
   clear h0 h1 h2 h3 h4 h5 h6 h7 h8 h9 h10 h11 h12 h13 hnn hst
   have HL4:=zh hl4
   have HK4:=zh hk4
   clear hl4 hk4
   have z0:=zc 0 HM3.out.box
   have z1:=zc 1 HM3.out.box
   have z2:=zc 2 HM3.out.box
   go_wp2_with fail
   clear z0 z1 z2
   refine HL4.out.mono ?_
   rintro e w4 ⟨rfl,hb4⟩
   obtain⟨W5,hW5⟩:=zx (w4.alloc (.cells #[.int .i64 x0,.int .i64 x1,.int .i64 x2,.int .i64 x3,.int .i64 x4,.int .i64 d0,.int .i64 d1,.int .i64 d2,.int .i64 d3,.int .i64 d4,.int .i64 d5,.int .i64 d6,.int .i64 d7,.int .i64 x6] 69))
   have HZ5:Hid (W5.heap[w4.heap.size]? = some (.cells #[.int .i64 x0,.int .i64 x1,.int .i64 x2,.int .i64 x3,.int .i64 x4,.int .i64 d0,.int .i64 d1,.int .i64 d2,.int .i64 d3,.int .i64 d4,.int .i64 d5,.int .i64 d6,.int .i64 d7,.int .i64 x6] 69 (0,0))):=by rw[←hW5]; exact heapNew w4 _
   have hb5:Below w4.heap.size w4 W5:=by rw[←hW5]; exact bl2 _
   have HM5:=zh (HM3.out.below (blN hb4 hb5))
   have HK5:=zh (HK4.out W5 (blN hb4 hb5))
   clear hb4 hb5 HM3 HL4 HK4
   have z0:=zc 0 HM5.out.box
   have z1:=zc 1 HM5.out.box
   have z2:=zc 2 HM5.out.box
   obtain⟨y0,-⟩:=q96z HZ5.out
   go_wp2_with fail
   clear z0 z1 z2 y0 hW5
   refine HK5.out.mono ?_
   rintro e w6 ⟨vb,rfl,ho6,hb6⟩
   have y13:w6.cell? ⟨w4.heap.size,13,none⟩=some (.int .i64 x6):=zc 13 (heapOld hb6 HZ5.out)
   have HM6:=zh (HM5.out.below hb6)
   obtain⟨BL,hBL⟩:=zx (Fi.blocks)
   have HBL:Hid (Fi.blocks=BL∧BL.length=40):=⟨hBL,by rw[←hBL]; exact HFO.out.len⟩
   rw[hBL] at ho6
   have hll:BL.length≤100:=by rw[HBL.out.2]; decide
   have HO6:=zh ho6
   have HB6:=zh hb6
   clear ho6 hb6 hBL HK5 HZ5
   go_upto_region 12 with fail
   obtain⟨ia7,ib7,ic7,id7,ie7⟩:=info_parts q81z
   have hrow7:=HO6.out
   unfold OwnR at hrow7
   have HRow7:=zh hrow7
   clear hrow7
   have HIb7:=zh ib7
   have HIc7:=zh ic7
   have HId7:=zh id7
   have HIe7:=zh ie7
   clear ib7 ic7 id7 ie7
   go_wp2_with (at_builtin; refine wpList_append_lies _ rfl _ _ _ rfl W5.heap.size 3 ia7 _ 1 8 Tryz.underlying58 HIb7.out HIc7.out HId7.out HIe7.out rfl (by decide) _ _ _ rfl (HRow7.out.alloc _) ⟨w6.heap.size,0,none⟩ 1 1 [.int .i64 x6] rfl rfl (World.news_of_block (cs:=#[.int .i64 x6]) (t:=3) (fr:=(0,0)) (heapNew w6 _)) (by simp[Value.oneCell']) (by omega) ?c1 ?c2 ?c3 (w6.heap.size+1) (by simp) ?_)
   case c1=>unfold maxLen; omega
   case c2=>omega
   case c3=>have:=HB6.out.size; first | (simp; done) | (simp; omega)
   intro g7 cap7 w7 hown7 hgrow7 hat7 hlt7
   have HO7:=zh (OwnR.snoc (f:=intC) (x:=x6) hown7 rfl rfl)
   have HB7:Hid (Below W5.heap.size _ w7):=Below.grown (bl1 HB6.out _) hgrow7 (bl1 HB6.out _).size (fun q hq=>(HRow7.out.lt q hq).1)
   clear hown7 hgrow7 hat7 hlt7 HRow7
   have hlen:=HBL.out.2
   rw[hlen] at HO7
   have HM7:=zh (HM5.out.below HB7.out)
   have HX7:Hid (∀b∈X,(∃j:Nat,j<i∧b∈(fs (j:Int)).all)∨b∈(BL ++ [x6]).take 0):=fun b hb=>Or.inl (HX.out b hb)
   have HmL:Hid (m<W5.heap.size):=HM5.out.map.lt
   have HL:Hid ((BL ++ [x6]).length=41∧BL ++ [x6]=Fi.blocks ++ [Fi.more]):=⟨by rw[List.length_append,hlen]; rfl,by rw[HBL.out.1,HX6.out]⟩
   have HFi:=zh hFi
   have HI:=zh (And.intro hi1 hle)
   clear HM5 HM6 HO6 HB6 HB7 HX y13 hll HIb7 HIc7 HId7 HIe7 HBL HX6 hFi
   rw[hlen,show(40:Nat)+1=41 from rfl]
   clear hlen
   go_wp2
   go_loopw [68] (fun q wr=>∃(k:Nat) (X':List Int),k≤41∧q = .int .i64 (k:Int)∧Hid (SM w ⟨ga,gb,gc⟩ B Bd m S D X' wr)∧Hid (OwnR 3 1 intC W5.heap.size wr (.slice (some ⟨g7,0,none⟩) 41 cap7) (BL ++ [x6]))∧Hid (∀b∈X',(∃j:Nat,j<i∧b∈(fs (j:Int)).all)∨b∈(BL ++ [x6]).take k)∧Hid (∀b∈X',b≠0)) (fun q _=>41-(intOf q).toNat)
   case atStart=>exact⟨0,X,Nat.zero_le _,rfl,HM7,HO7,HX7,HZ⟩
   case round=>
    clear HM7 HO7 HX7
    obtain⟨k,X',hk,rfl,HMk,HOk,HXk,HZk⟩:=hrel
    by_cases hlt:k<41
    ·have hiw:Ints wr (.slice (some ⟨g7,0,none⟩) 41 cap7) (BL ++ [x6]):=OwnR.row (fun _ _=>rfl) HOk.out
     obtain⟨ad2,len2,cap2,hsl,-,-,HF2⟩:=RowAt.facts hiw
     obtain⟨rfl,rfl,rfl⟩:=Value.slice.inj hsl
     obtain⟨b2,o2,b,hbo,-,hLk,hc0⟩:=HF2.out k hlt
     have hbo2:=Option.some.inj hbo
     cases hbo2
     have y0:=hc0 0 _ rfl
     rw[Nat.mul_one,Nat.add_zero,Nat.zero_add] at y0
     have htk1:(BL ++ [x6]).take (k+1)=(BL ++ [x6]).take k ++ [b]:=q31z hLk
     by_cases hb0:b=0
     ·have q2:(b == 0)=true:=beq_iff_eq.2 hb0
      have HX2:Hid (∀b∈X',(∃j:Nat,j<i∧b∈(fs (j:Int)).all)∨b∈(BL ++ [x6]).take (k+1)):=fun c hc=>(HXk.out c hc).imp_right (fun h=>by rw[htk1]; exact List.mem_append_left _ h)
      clear hiw hsl HF2 hbo hLk hc0 hb0 htk1 HXk
      go_wp2
      go_roundw
      case rel=>exact⟨k+1,X',by omega,by go_num,HMk,HOk,HX2,HZk⟩
      case measure=>simp[intOf]; omega
     ·have q2:(b == 0)=false:=beq_eq_false_iff_ne.2 hb0
      obtain⟨hall,hnt⟩:=once_row HFO.out (by rw[←HL.out.2]; exact hLk) hb0
      rw[←HL.out.2] at hnt
      have hnX:b∉X':=fun hm=>by
       rcases HXk.out b hm with ⟨j,hj,hjb⟩ | hm
       ·exact HP.out.once (j:Int) (i:Int) (by omega) b hjb (by rw[HFi.out]; exact hall)
       ·exact hnt hm
      obtain⟨kk,p,hin,hbe,hbit⟩:=HP.out.bits (i:Int) b (by rw[HFi.out]; exact hall)
      have hpe:q83z ⟨ga,gb,gc⟩ b=(kk,(p:Int),0):=by rw[hbe]; exact HPLI.out kk p hin
      have hme:=HMPI.out kk p hin
      have hpl9:=fun W:World=>HPL.out W b
      have hmp9:=fun W:World=>HMP.out W kk
      have htk9:=fun W:World=>HTK.out W kk p hin
      obtain⟨sec,hsec⟩:=zx (q3z ⟨ga,gb,gc⟩ kk true)
      rw[hsec] at hme hbit
      have hrd9:=fun(W:World) (hW:Below w.heap.size w W)=>HRD.out W hW sec
      simp only[hsec] at htk9
      obtain⟨TT,hTT⟩:=zx (S.disk.read sec)
      obtain⟨rc,hrc⟩:=zx (S.disk.readC sec)
      have hbt:(TT.data.toList.getD p 0 == 1)=true:=by
       rw[hTT] at hbit
       exact beq_iff_eq.2 hbit
      simp only[hTT,hrc] at hrd9
      simp only[hTT,Int.toNat_natCast,hbt] at htk9
      simp only[hpe] at hpl9
      simp only[hme] at hmp9
      have HX2:Hid (∀c∈X' ++ [b],(∃j:Nat,j<i∧c∈(fs (j:Int)).all)∨c∈(BL ++ [x6]).take (k+1)):=fun c hc=>by
       rw[htk1]
       rcases List.mem_append.1 hc with hc | hc
       ·exact(HXk.out c hc).imp_right (fun h=>List.mem_append_left _ h)
       ·exact Or.inr (List.mem_append_right _ hc)
      have HNX:=zh hnX
      have HZ2:Hid (∀c∈X' ++ [b],c≠0):=fun c hc=>(List.mem_append.1 hc).elim (HZk.out c) (fun h=>by rw[List.mem_singleton.1 h]; exact hb0)
      have HPL9:=zh hpl9
      have HMP9:=zh hmp9
      have HRD9:=zh hrd9
      have HTK9:=zh htk9
      clear hpl9 hmp9 hrd9 htk9
      clear hall hnt hnX hin hbe hbit hpe hme hsec hTT hrc hbt hiw hsl HF2 hbo hLk hc0 hb0 htk1 HXk
      have z0:=zc 0 HMk.out.box
      have z1:=zc 1 HMk.out.box
      have z2:=zc 2 HMk.out.box
      go_wp2_with fail
      clear z0 z1 z2 y0
      refine(HPL9.out _).mono ?_
      rintro e w8 ⟨rfl,hb8⟩
      have HM8:=zh (HMk.out.below hb8)
      have HO8:=zh (HOk.out.below hb8)
      clear hb8
      have z0:=zc 0 HM8.out.box
      have z1:=zc 1 HM8.out.box
      have z2:=zc 2 HM8.out.box
      go_wp2_with fail
      clear z0 z1 z2
      refine(HMP9.out _).mono ?_
      rintro e w9 ⟨rfl,hb9⟩
      have HM9:=zh (HM8.out.below hb9)
      have HO9:=zh (HO8.out.below hb9)
      clear hb9
      go_wp2_with fail
      refine(HRD9.out _ HM9.out.bel).mono ?_
      rintro e w10 ⟨rfl,hw10⟩
      replace hw10:=hw10.symm
      subst hw10
      have z2:=zc 2 HM9.out.box
      go_wp2_with fail
      clear z2
      refine(HTK9.out _).mono ?_
      rintro e w11 ⟨rfl,hb11⟩
      have hM11:=HM9.out.below hb11
      have hO11:=HO9.out.below hb11
      have hlk:=tru_lookup hM11.map b
      rw[decide_eq_false HNX.out] at hlk
      obtain⟨o',hup,ho'⟩:=tru_update hM11.map b
      rw[if_neg HNX.out] at ho'
      obtain⟨W12,hW12⟩:=zx (ChangeMaps.setBlock w11 m o')
      rw[hW12] at hup
      have hT12:Turn (fun j=>j=m) w11 W12:=by rw[←hW12]; exact q98z
      have HM12:Hid (SM w ⟨ga,gb,gc⟩ B Bd m S D (X' ++ [b]) W12):=hM11.turn hT12 ⟨o',by rw[←hW12]; exact IM.heap_setBlock_at hM11.map.lt,ho'⟩
      have HO12:Hid (OwnR 3 1 intC W5.heap.size W12 (.slice (some ⟨g7,0,none⟩) 41 cap7) (BL ++ [x6])):=hO11.turn hT12 (fun q hq e=>by
       have h1:=(hO11.lt q hq).1
       have h2:=HmL.out
       omega)
      clear hb11 hM11 hO11 hT12 ho' hW12
      go_wp2
      go_roundw
      case rel=>exact⟨k+1,X' ++ [b],by omega,by go_num,HM12,HO12,HX2,HZ2⟩
      case measure=>simp[intOf]; omega
    ·obtain rfl:k=41:=by omega
     have HX9:Hid (∀b∈X',∃j:Nat,j<i+1∧b∈(fs (j:Int)).all):=fun b hb=>by
      rcases HXk.out b hb with ⟨j,hj,hjb⟩ | hm
      ·exact⟨j,by omega,hjb⟩
      ·have h0:=HZk.out b hb
       rw[List.take_of_length_le (by rw[HL.out.1]; exact Nat.le_refl _)] at hm
       obtain⟨q,hq⟩:=List.getElem?_of_mem hm
       rw[HL.out.2] at hq
       exact⟨i,by omega,by rw[HFi.out]; exact(once_row HFO.out hq h0).1⟩
     have HZ9:=zh HZk.out
     clear HXk HZk HOk
     have hn9:=HN1.out
     have hi9:=HI.out.2
     go_wp2
     go_roundw
     case rel=>exact⟨i+1,X',by omega,by omega,by go_num,HMk,HX9,HZ9⟩
     case measure=>simp[intOf]; omega
  ·obtain rfl:i=n+1:=by omega
   have k1:decide (((n+1:Nat):Int)≤(n:Int))=false:=decide_eq_false (by omega)
   have HF:Hid (Below w.heap.size w w3):=HM3.out.bel
   go_wp2
   go_ret
   exact⟨rfl,HF.out⟩
end
