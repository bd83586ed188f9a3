/-
 A slice of calls among the arguments: what it holds.
-/
import Derived.Test.YtgofmnhfajmbfaaGreatDoorMapsA
import Derived.Lib.SmallJoins
import Derived.Test.YtgofmnhfajmbfaaGreatDoorSpJ
set_option maxRecDepth 100000
namespace Go.Proofs.YtgofmnhfajmbfaaGreatDoor
open Go Go.Joins Go.ChangeShapes Go.WideShapes Go.RowKit Go.Deep
section
variable {H:Type} {enc:TypeId×Value→H} {W:World}
theorem ints_read {fuel:Nat} {cs:List Value} {d:DataW H} {ps:List MemPlace} (h:DataW.trod enc Tryz.prog W 0 (fun _=>true) true fuel 58 cs=some (d,ps)) (hlt:∀x∈ps,x.block<W.heap.size) :
 ∃(l:List Int) (v:Value),cs=[v]∧Ints W v l:=by
 rcases ChangeShapes.open_ints Tryz.underlying58 Tryz.underlying3 (show Tryz.prog.cellsOf 3=1 by kernel_rfl) h with ⟨hcs,hx⟩ | ⟨a,len,cap,ss,hcs,_,hl,hm,hz,hx,hcell,hsz⟩
 ·exact⟨[],_,hcs,RowAt.void W 1⟩
 ·simp only[Prod.mk.injEq] at hx
  obtain⟨rfl,rfl⟩:=hx
  simp only[if_true] at hz
  have hlen:(ss.take len).length=len:=by rw[List.length_take]; omega
  refine⟨ss.take len,.slice (some a) (ss.take len).length cap,by rw[hlen]; exact hcs,some a,cap,by rw[List.length_map],by rw[List.length_map]; omega,hm,fun hp=>?_⟩
  rw[List.length_map] at hp
  have hpos:0<ss.length:=by omega
  obtain⟨b,off,spot⟩:=a
  have hspot:spot=none:=by simpa [Addr.add] using World.cell?_spot (hcell 0 hpos)
  subst hspot
  refine⟨b,off,rfl,hlt (.cell b off) (MemPlace.mem_row.2 ⟨0,by omega,by simp⟩),fun j x hx i y hy=>?_⟩
  rw[List.getElem?_map,Option.map_eq_some_iff] at hx
  obtain⟨n,hn,rfl⟩:=hx
  rw[List.getElem?_take] at hn
  split at hn
  ·have hj:=(List.getElem?_eq_some_iff.1 hn).1
   have hi:i=0:=by have:=(List.getElem?_eq_some_iff.1 hy).1; simpa using this
   subst hi
   have hv:Value.int .i64 n=y:=by simpa using hy
   rw[←hv]
   have:=hcell j hj
   rw[add_plain] at this
   rw[Nat.mul_one,Nat.add_zero,this]
   simp[List.getD,hn]
  ·cases hn
end
/-- A write or a cut: which file, where, its bytes, its picks. -/
structure Do4 where
 second:Bool
 off:Int
 data:ByteArray
 picks:Value
instance:Inhabited Do4:=⟨⟨false,0,⟨#[]⟩,.slice none 0 0⟩⟩
def doC (x:Do4):List Value:=[.bool x.second,.int .i64 x.off,.string x.data,x.picks]
structure Do4.In (W:World) (x:Do4):Prop where
 off:(Lit.int .i64 x.off).wf=true
 data:x.data.size≤maxLen
 picks:∃P,Ints W x.picks P
def DosAt (w:World) (v:Value) (l:List Do4):Prop:=RowAt w v 4 (l.map doC)∧∀x∈l,x.In w
section
variable {H:Type} {enc:TypeId×Value→H} {W:World}
theorem do_read {fuel:Nat} {cs:List Value} {d:DataW H} {ps:List MemPlace} (h:DataW.trod enc Tryz.prog W 0 (fun _=>true) true fuel 60 cs=some (d,ps)) (hlt:∀x∈ps,x.block<W.heap.size) :
 ∃x:Do4,cs=doC x∧x.In W:=by
 obtain⟨xs,n,rfl,hx,hcl,hxl,hf⟩:=DataW.trod_struct Tryz.underlying60 h
 rw[show Tryz.prog.cellsOf 60=4 by kernel_rfl] at hcl
 match xs,hxl,cs,hcl with
 | [x0,x1,x2,x3],_,[c0,c1,c2,c3],_=>
   have e0:Tryz.prog.cellsOf 4=1:=by kernel_rfl
   have e1:Tryz.prog.cellsOf 3=1:=by kernel_rfl
   have e2:Tryz.prog.cellsOf 9=1:=by kernel_rfl
   have e3:Tryz.prog.cellsOf 58=1:=by kernel_rfl
   have t0:DataW.trod enc Tryz.prog W 0 (fun _=>true) true n 4 (List.take (Tryz.prog.cellsOf 4) (List.drop 0 [c0,c1,c2,c3]))=some x0:=hf 0 _ rfl
   have t1:DataW.trod enc Tryz.prog W 0 (fun _=>true) true n 3 (List.take (Tryz.prog.cellsOf 3) (List.drop 1 [c0,c1,c2,c3]))=some x1:=hf 1 _ rfl
   have t2:DataW.trod enc Tryz.prog W 0 (fun _=>true) true n 9 (List.take (Tryz.prog.cellsOf 9) (List.drop 2 [c0,c1,c2,c3]))=some x2:=hf 2 _ rfl
   have t3:DataW.trod enc Tryz.prog W 0 (fun _=>true) true n 58 (List.take (Tryz.prog.cellsOf 58) (List.drop 3 [c0,c1,c2,c3]))=some x3:=hf 3 _ rfl
   rw[e0] at t0
   rw[e1] at t1
   rw[e2] at t2
   rw[e3] at t3
   obtain⟨b0,h0,rfl⟩:=DataW.trod_bool Tryz.underlying4 t0
   obtain⟨n1,h1,rfl,f1⟩:=DataW.trod_int Tryz.underlying3 t1
   obtain⟨s2,h2,rfl,f2⟩:=DataW.trod_string Tryz.underlying9 t2
   obtain⟨d3,p3⟩:=x3
   simp only[Prod.mk.injEq] at hx
   obtain⟨rfl,rfl⟩:=hx
   obtain⟨P,v3,h3,hP⟩:=ints_read t3 (fun x hx=>hlt x (by simp[hx]))
   cases h0; cases h1; cases h2; cases h3
   exact⟨⟨b0,n1,s2,c3⟩,rfl,f1,f2,P,hP⟩
theorem open_dos {base:Nat} {v:Value} {d:DataW H} {ps:List MemPlace} (hval:Value.okWide Tryz.prog W .any base 51 v)
 (h:DataW.Trod enc Tryz.prog W 0 (fun _=>true) true 51 v d ps) (hlt:∀x∈ps,x.block<W.heap.size):∃l,DosAt W v l:=by
 obtain⟨a0,len,cap,rfl⟩:=okWide_slice Tryz.underlying51 hval
 obtain⟨fuel,hf⟩:=h
 rcases open_slice Tryz.underlying51 hf with ⟨hcs,hx⟩ | ⟨a,len',cap',m,n,D,Pl,hcs,_,hl,hm,hmm,hx,hi⟩
 ·simp[Value.cells] at hcs
  obtain⟨rfl,rfl,rfl⟩:=hcs
  exact⟨[],RowAt.void W 4,by simp⟩
 ·simp[Value.cells] at hcs
  obtain⟨rfl,rfl,rfl⟩:=hcs
  simp only[Prod.mk.injEq] at hx
  obtain⟨rfl,rfl⟩:=hx
  simp only[if_true] at hmm
  have e4:Tryz.prog.cellsOf 60=4:=by kernel_rfl
  rw[e4] at hi hlt
  have hspot:0<m→a.spot=none:=fun h0=>by
   obtain⟨cs',hc,_⟩:=hi 0 h0
   obtain⟨_,hcl,hat⟩:=World.cells?_some hc
   have h1:=hat 0 (by omega)
   simpa [Addr.add] using World.cell?_spot (h1.trans (List.getElem?_eq_getElem (by rw[hcl]; omega)))
  obtain⟨b,off,spot⟩:=a
  obtain⟨X,hX⟩:=choose_lt (α:=Do4) (n:=len) (p:=fun i x=>spot=none∧(∀(k:Nat) (y:Value),(doC x)[k]? = some y→W.cell? ⟨b,off+i*4+k,none⟩=some y)∧x.In W) (fun i hil=>by
   obtain⟨cs',hc,ht⟩:=hi i (by omega)
   obtain⟨x,rfl,hG⟩:=do_read ht (fun p hp=>hlt p (List.mem_append_right _ (List.mem_flatMap.2 ⟨i,List.mem_range.2 (by omega),hp⟩)))
   obtain⟨_,hcl,hat⟩:=World.cells?_some hc
   have hspot:spot=none:=hspot (by omega)
   subst hspot
   refine⟨x,rfl,fun k y hy=>?_,hG⟩
   have hk:k<4:=(List.getElem?_eq_some_iff.1 hy).1
   have h2:=hat k hk
   rw[add_plain,add_plain] at h2
   rw[h2]
   exact hy)
  refine⟨(List.range len).map X,⟨some ⟨b,off,spot⟩,cap,by simp,by simpa using hl,hm,fun hp=>?_⟩,fun x hx=>?_⟩
  ·have hpos:0<len:=by simpa using hp
   obtain⟨rfl,_⟩:=hX 0 hpos
   refine⟨b,off,rfl,hlt (.cell b off) (List.mem_append_left _ (MemPlace.mem_row.2 ⟨0,by show 0<m*4; omega,by simp⟩)),fun k x hx i y hy=>?_⟩
   rw[List.getElem?_map,Option.map_eq_some_iff] at hx
   obtain⟨z,hz,rfl⟩:=hx
   rw[List.getElem?_map,Option.map_eq_some_iff] at hz
   obtain⟨j,hj,rfl⟩:=hz
   have hjj:=List.getElem?_eq_some_iff.1 hj
   have hkl:k<len:=by simpa using hjj.1
   have:j=k:=by simpa using hjj.2.symm
   subst this
   exact(hX j hkl).2.1 i y hy
  ·obtain⟨i,hi',rfl⟩:=List.mem_map.1 hx
   exact(hX i (List.mem_range.1 hi')).2.2
end
end Go.Proofs.YtgofmnhfajmbfaaGreatDoor
namespace Go.Proofs.YtgofmnhfajmbfaaGreatDoor.Sp
open Go Txt
def Side.may (S:Side) (i:Int):Prop:=S.disk.has i∧(∃c∈S.deps.l,c.at_=i)∧¬S.deps.under i∧S.deps.ready i≠[]
theorem ats_of_send (d:Deps) (i j:Int):(∃c∈(d.send i).l,c.at_=j)↔∃c∈d.l,c.at_=j:=by
 unfold Deps.send
 constructor
 ·rintro⟨c,hc,rfl⟩
  obtain⟨b,hb,rfl⟩:=List.mem_map.1 hc
  exact⟨b,hb,(q66z b).1.symm⟩
 ·rintro⟨c,hc,rfl⟩
  exact⟨_,List.mem_map.2 ⟨c,hc,rfl⟩,(q66z c).1⟩
theorem Side.may.write {S:Side} (h:S.Fl) {i j:Int} (hj:j≠i) (hm:S.may j):(S.write i).may j:=by
 obtain⟨h1,h2,h3,h4⟩:=hm
 refine⟨h1,(ats_of_send S.deps i j).2 h2,fun hu=>h3 ((under_send h.tied.ok hj).1 hu),?_⟩
 show(S.deps.send i).ready j≠[]
 rw[ready_send h.tied.ok hj]
 exact h4
theorem Side.Fl.fly_few {S:Side} (h:S.Fl) {i:Int} (hm:S.may i):S.fly.length<1024:=by
 have hni:i∉S.fly.map Prod.snd:=fun hi=>by
  obtain⟨x,hx,e⟩:=List.mem_map.1 hi
  have:=(h.flyB x hx).2
  rw[e] at this
  exact hm.2.2.1 this
 have h1:(i :: S.fly.map Prod.snd).Nodup:=List.nodup_cons.2 ⟨hni,h.flyI⟩
 have h2:(i :: S.fly.map Prod.snd) ⊆ S.deps.l.map Chg.at_:=fun j hj=>by
  rcases List.mem_cons.1 hj with rfl | hj
  ·obtain⟨c,hc,e⟩:=hm.2.1
   exact List.mem_map.2 ⟨c,hc,e⟩
  ·obtain⟨x,hx,rfl⟩:=List.mem_map.1 hj
   obtain⟨c,hc,e,_⟩:=(h.flyB x hx).2
   exact List.mem_map.2 ⟨c,hc,e⟩
 have h3:=h1.length_le_of_subset h2
 rw[List.length_cons,List.length_map,List.length_map] at h3
 have:=h.tied.ok.few
 omega
theorem writes_at:∀(l:List Int) (S:Side),S.Fl→l.Nodup→(∀i∈l,S.may i)→∀k,k≤l.length →
 let T:=(l.take k).foldl Side.write S
 T.Fl∧(∀i∈l.drop k,T.may i)∧T.disk.last=S.disk.last+k
 | l,S,hf,_,hm,0,_=>by
   rw[List.take_zero,List.drop_zero]
   exact⟨hf,hm,rfl⟩
 | [],S,hf,_,hm,k+1,hk=>absurd hk (by simp)
 | i :: r,S,hf,hn,hm,k+1,hk=>by
   obtain⟨hi,hr⟩:=List.nodup_cons.1 hn
   obtain⟨m1,m2,m3,m4⟩:=hm i (List.mem_cons_self ..)
   have hf2:=hf.write m1 m3 m4
   have ih:=writes_at r (S.write i) hf2 hr (fun j hj=>(hm j (List.mem_cons_of_mem _ hj)).write hf (fun e=>hi (e ▸ hj))) k (by rw[List.length_cons] at hk; omega)
   rw[List.take_succ_cons,List.drop_succ_cons]
   refine⟨ih.1,ih.2.1,?_⟩
   have h3:=ih.2.2
   rw[show(S.write i).disk.last=S.disk.last+1 from rfl] at h3
   show((r.take k).foldl Side.write (S.write i)).disk.last=_
   rw[h3]
   omega
theorem Side.Fl.may_of {S:Side} (h:S.Fl):∀i∈S.deps.sectors,S.may i:=fun i hi=>
 ⟨(h.sectors i hi).1,(sectors_mem.1 hi).1,(h.sectors i hi).2.1,(h.sectors i hi).2.2⟩
theorem sectors_len {S:Side} (h:S.Fl):S.deps.sectors.length≤1024:=by
 have h1:=(q99z S.deps).length_le_of_subset (l₂:=S.deps.l.map Chg.at_) (fun i hi=>by
  obtain⟨c,hc,e⟩:=(sectors_mem.1 hi).1
  exact List.mem_map.2 ⟨c,hc,e⟩)
 rw[List.length_map] at h1
 have:=h.tied.ok.few
 omega
theorem ends_snoc (pick:Nat→Int):∀(l:List Int) (S:Side) (j:Nat) (n:Int),Side.ends pick S j (l ++ [n])=(Side.ends pick S j l).endK (pick (j+l.length)) n
 | [],S,j,n=>rfl
 | m :: r,S,j,n=>by
   show Side.ends pick (S.endK (pick j) m) (j+1) (r ++ [n])=_
   rw[ends_snoc pick r]
   show(Side.ends pick (S.endK (pick j) m) (j+1) r).endK _ n=(Side.ends pick (S.endK (pick j) m) (j+1) r).endK _ n
   congr 2
   rw[List.length_cons]
   omega
theorem endK_last (S:Side) (k n:Int):(S.endK k n).disk.last=S.disk.last:=by
 unfold Side.endK
 split
 ·split
  ·rfl
  ·split <;> rfl
 ·rfl
theorem ends_at (pick:Nat→Int) {S:Side} (h:S.Fl) {l:List Int} (hn:l.Nodup) (hl:∀n∈l,∃i,(n,i)∈S.fly):∀k,k≤l.length →
 (Side.ends pick S 0 (l.take k)).Fl∧(∀n∈l.drop k,∃i,(n,i)∈(Side.ends pick S 0 (l.take k)).fly)∧(Side.ends pick S 0 (l.take k)).disk.last=S.disk.last
 | 0,_=>by
   rw[List.take_zero,List.drop_zero]
   exact⟨h,hl,rfl⟩
 | k+1,hk=>by
   obtain⟨h1,h2,h3⟩:=ends_at pick h hn hl k (by omega)
   have hk':k<l.length:=hk
   rw[List.take_add_one,List.getElem?_eq_getElem hk',Option.toList_some,ends_snoc]
   have hd:l.drop k=l[k] :: l.drop (k+1):=List.drop_eq_getElem_cons hk'
   have hnd:(l.drop k).Nodup:=hn.sublist (List.drop_sublist k l)
   rw[hd] at hnd h2
   obtain⟨q1,q2⟩:=List.nodup_cons.1 hnd
   refine⟨(endK_stay h1 _ _).fl,fun n hm=>?_,by rw[endK_last,h3]⟩
   obtain⟨i,hi⟩:=h2 n (List.mem_cons_of_mem _ hm)
   exact⟨i,endK_fly _ _ hi (fun e=>q1 (e ▸ hm))⟩
theorem unders_fly {S:Side}:∀n∈S.unders,∃i,(n,i)∈S.fly:=fun n hn=>by
 obtain⟨x,hx,rfl⟩:=List.mem_map.1 (unders_mem.1 hn)
 exact⟨x.2,hx⟩
theorem fly_most {S:Side} (h:S.Fl):S.fly.length≤1024:=by
 have h2:S.fly.map Prod.snd ⊆ S.deps.l.map Chg.at_:=fun j hj=>by
  obtain⟨x,hx,rfl⟩:=List.mem_map.1 hj
  obtain⟨c,hc,e,_⟩:=(h.flyB x hx).2
  exact List.mem_map.2 ⟨c,hc,e⟩
 have h3:=h.flyI.length_le_of_subset h2
 rw[List.length_map,List.length_map] at h3
 have:=h.tied.ok.few
 omega
theorem q157z {S:Side} (h:S.Fl) {n i:Int} (hm:(n,i)∈S.fly):S.disk.has i∧S.deps.under i∧S.whose n=some i:=by
 obtain⟨c,hc,e,hs⟩:=(h.flyB _ hm).2
 refine⟨?_,⟨c,hc,e,hs⟩,(whose_iff h).2 hm⟩
 have:=(h.at_ c hc).1
 rw[e] at this
 exact this
theorem waits_get {S:Side} (h:S.Fl) {n i:Int} (hm:(n,i)∈S.fly):(S.disk.waits.find? (fun x=>decide (x.1=n))).map (·.2)=some ⟨0,0,i,S.deps.sent i (S.disk.get i)⟩:=by
 have hw:=(whose_iff h).2 hm
 unfold Side.whose at hw
 rw[h.waits,List.find?_map]
 obtain⟨x,hx,rfl⟩:=Option.map_eq_some_iff.1 hw
 have e:((fun x:Int×Wr=>decide (x.1=n)) ∘ fun x:Int×Int=>(x.1,(⟨S.node,S.epoch,x.2,S.deps.sent x.2 (S.disk.get x.2)⟩:Wr)))=fun x=>decide (x.1=n):=rfl
 rw[e,hx]
 show some (⟨S.node,S.epoch,x.2,_⟩:Wr)=_
 rw[h.node.1,h.node.2]
theorem flush_last {S:Side} (h:S.Fl) (pick:Nat→Int):(S.flush pick).disk.last≤S.disk.last+1024:=by
 have hf1:=(q101z h).fl
 have h1:=ends_at pick hf1 (unders_nodup hf1) unders_fly S.writeAll.unders.length (Nat.le_refl _)
 rw[List.take_length] at h1
 have h2:=writes_at S.deps.sectors S h (q99z _) h.may_of S.deps.sectors.length (Nat.le_refl _)
 rw[List.take_length] at h2
 have h3:=sectors_len h
 have h4:=h1.2.2
 have h5:=h2.2.2
 show(Side.ends pick S.writeAll 0 S.writeAll.unders).disk.last≤_
 rw[h4]
 show(S.deps.sectors.foldl Side.write S).disk.last≤_
 rw[h5]
 omega
end Go.Proofs.YtgofmnhfajmbfaaGreatDoor.Sp
