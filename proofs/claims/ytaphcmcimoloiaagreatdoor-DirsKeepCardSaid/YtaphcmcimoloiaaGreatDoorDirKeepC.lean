/-
 The frame of a law's proof,whatever its parameters: the call answers true,and has turned nothing that was there; so each argument reads as it read. And a world in which the listed tables lie.
-/
import Derived.Test.YtaphcmcimoloiaaGreatDoorCards
import Derived.Test.YtaphcmcimoloiaaGreatDoorTie
import Derived.Deep.DeepHandedRow
import Derived.Lib.SmallJoins
import Derived.Test.YtaphcmcimoloiaaGreatDoorDirWorks
import Derived.Test.YtaphcmcimoloiaaGreatDoorSpDirIdeal
set_option maxRecDepth 100000
namespace Go.Proofs.YtaphcmcimoloiaaGreatDoor.frame
open Go.ChangeShapes Go.WideShapes Go.ChangeAt Go.RowKit
theorem own:ownKnob Tryz.prog.godebug=none:=by kernel_rfl
theorem laidOut:laidOutB Tryz.prog=true:=by kernel_rfl
noncomputable def readsB (P:Program) (ts:List TypeId):Bool:=ts.all fun t=>P.readableRec t && decide (t<P.types.size)
section
variable {P:Program} {H:Type} {enc:TypeId×Value→H}
theorem trodAll_stays (hl:laidOutB P=true) {W W':World} (hb:Below W.heap.size W W'):∀{ts:List TypeId} {vs:List Value} {ds:List (DataW H)} {ps:List MemPlace},readsB P ts=true →
 DataW.TrodAll enc P W 0 (fun _=>true) true ts vs ds ps→(∀x∈ps,x.block<W.heap.size)→DataW.TrodAll enc P W' 0 (fun b=>decide (b<W.heap.size)) true ts vs ds ps
 | [],_,_,_,_,h,_=>by
   obtain⟨rfl,rfl,rfl⟩:=trodAll_nil h
   exact trodAll_mk0
 | t :: ts,_,_,_,hr,h,hlt=>by
   obtain⟨v,vs,d,ds,p,q,rfl,rfl,rfl,h0,r0⟩:=trodAll_cons h
   unfold readsB at hr
   rw[List.all_cons,Bool.and_eq_true,Bool.and_eq_true,decide_eq_true_eq] at hr
   exact trodAll_cons_mk (Below.trod hl hr.1.1 hr.1.2 h0 hb (fun x hx=>hlt x (List.mem_append_left _ hx))) (trodAll_stays hl hb hr.2 r0 (fun x hx=>hlt x (List.mem_append_right _ hx)))
theorem post_true (hl:laidOutB P=true) {tb:TypeId} (htb:P.underlying tb=some .bool) {f:Func} {s:ChangeSpec} {W W':World} {args:Array Value} {ds gs:List (DataW H)} {before:List MemPlace} (hts:readsB P f.params.toList=true) (hres:f.resultTypes=#[tb])
 (hv:s.vars=[]) (hW:DataW.Whole enc P f.params.toList s.vars false W args.toList ds gs before) (hfn:s.fn H (ds ++ gs) = { results:=[.lit (.bool true)],args:=ds }) (hb:Below W.heap.size W W') :
 s.post enc P f false true false false W args (.bool true) W':=by
 have hW':=hW
 obtain⟨p,q,hA,hV,rfl,hfz,hnd⟩:=hW
 rw[hv] at hV
 obtain⟨rfl,rfl⟩:=trodVars_none hV
 have hlt:∀x∈p,x.block<W.heap.size:=fun x hx=>by simpa using hW'.lt x (List.mem_append_left _ hx)
 refine⟨_,_,_,[],p,[],hW',?_,?_,?_,hb.frame _,fun h=>by cases h⟩
 ·rw[hfn,hres]
  exact trodAll_mk1 (shut_bool htb _)
 ·rw[hfn]
  exact trodAll_stays hl hb hts hA hlt
 ·rw[hv,hfn]
  rfl
end
def flatCells:Nat→DataW Unit→List Value
 | 0,_=>[]
 | _+1,.lit (.int k z)=>[.int k z]
 | _+1,.lit (.bool b)=>[.bool b]
 | n+1,.agg parts=>parts.flatMap (flatCells n)
 | _,_=>[]
def layTable (h:Array Obj) (x:Nat×DataW Unit):Array Obj:=
 h.modify x.1 fun
  | .cells _ t frozen=>.cells (flatCells 5 x.2).toArray t frozen
  | o=>o
noncomputable def laidWorld (tabs:List (Nat×DataW Unit)) (os:Os):World:=
 { World.holding Tryz.prog os ⟨#[],#[],[]⟩ with heap:=tabs.foldl layTable (World.holding Tryz.prog os ⟨#[],#[],[]⟩).heap }
end Go.Proofs.YtaphcmcimoloiaaGreatDoor.frame
namespace Go.Proofs.YtaphcmcimoloiaaGreatDoor
open Go Go.Joins Go.ChangeShapes Go.WideShapes Go.RowKit Go.Deep
section
variable {H:Type} {enc:TypeId×Value→H} {W:World}
theorem ints_read {fuel:Nat} {cs:List Value} {d:DataW H} {ps:List MemPlace} (h:DataW.trod enc Tryz.prog W 0 (fun _=>true) true fuel 48 cs=some (d,ps)) (hlt:∀x∈ps,x.block<W.heap.size) :
 ∃(l:List Int) (v:Value),cs=[v]∧Ints W v l:=by
 rcases ChangeShapes.open_ints Tryz.underlying48 Tryz.underlying3 (show Tryz.prog.cellsOf 3=1 by kernel_rfl) h with ⟨hcs,hx⟩ | ⟨a,len,cap,ss,hcs,_,hl,hm,hz,hx,hcell,hsz⟩
 ·exact⟨[],_,hcs,RowAt.void W 1⟩
 ·simp only[Prod.mk.injEq] at hx
  obtain⟨rfl,rfl⟩:=hx
  simp only[if_true] at hz
  have hlen:(ss.take len).length=len:=by rw[List.length_take]; omega
  refine⟨ss.take len,.slice (some a) (ss.take len).length cap,by rw[hlen]; exact hcs,some a,cap,by rw[List.length_map],by rw[List.length_map]; omega,hm,fun hp=>?_⟩
  rw[List.length_map] at hp
  have hpos:0<ss.length:=by omega
  obtain⟨b,off,spot⟩:=a
  have hspot:spot=none:=by simpa [Addr.add] using World.cell?_spot (hcell 0 hpos)
  subst hspot
  refine⟨b,off,rfl,hlt (.cell b off) (MemPlace.mem_row.2 ⟨0,by omega,by simp⟩),fun j x hx i y hy=>?_⟩
  rw[List.getElem?_map,Option.map_eq_some_iff] at hx
  obtain⟨n,hn,rfl⟩:=hx
  rw[List.getElem?_take] at hn
  split at hn
  ·have hj:=(List.getElem?_eq_some_iff.1 hn).1
   have hi:i=0:=by have:=(List.getElem?_eq_some_iff.1 hy).1; simpa using this
   subst hi
   have hv:Value.int .i64 n=y:=by simpa using hy
   rw[←hv]
   have:=hcell j hj
   rw[add_plain] at this
   rw[Nat.mul_one,Nat.add_zero,this]
   simp[List.getD,hn]
  ·cases hn
end
/-- A change: its name, its inode, is it a removal, its picks. -/
structure Chg4 where
 name:ByteArray
 inode:Int
 away:Bool
 picks:Value
instance:Inhabited Chg4:=⟨⟨⟨#[]⟩,0,false,.slice none 0 0⟩⟩
def chC (x:Chg4):List Value:=[.string x.name,.int .i64 x.inode,.bool x.away,x.picks]
structure Chg4.In (W:World) (x:Chg4):Prop where
 name:x.name.size≤maxLen
 inode:(Lit.int .i64 x.inode).wf=true
 picks:∃P,Ints W x.picks P
def ChgsAt (w:World) (v:Value) (l:List Chg4):Prop:=RowAt w v 4 (l.map chC)∧∀x∈l,x.In w
section
variable {H:Type} {enc:TypeId×Value→H} {W:World}
theorem chg_read {fuel:Nat} {cs:List Value} {d:DataW H} {ps:List MemPlace} (h:DataW.trod enc Tryz.prog W 0 (fun _=>true) true fuel 64 cs=some (d,ps)) (hlt:∀x∈ps,x.block<W.heap.size) :
 ∃x:Chg4,cs=chC x∧x.In W:=by
 obtain⟨xs,n,rfl,hx,hcl,hxl,hf⟩:=DataW.trod_struct Tryz.underlying64 h
 rw[show Tryz.prog.cellsOf 64=4 by kernel_rfl] at hcl
 match xs,hxl,cs,hcl with
 | [x0,x1,x2,x3],_,[c0,c1,c2,c3],_=>
   have e0:Tryz.prog.cellsOf 9=1:=by kernel_rfl
   have e1:Tryz.prog.cellsOf 3=1:=by kernel_rfl
   have e2:Tryz.prog.cellsOf 4=1:=by kernel_rfl
   have e3:Tryz.prog.cellsOf 48=1:=by kernel_rfl
   have t0:DataW.trod enc Tryz.prog W 0 (fun _=>true) true n 9 (List.take (Tryz.prog.cellsOf 9) (List.drop 0 [c0,c1,c2,c3]))=some x0:=hf 0 _ rfl
   have t1:DataW.trod enc Tryz.prog W 0 (fun _=>true) true n 3 (List.take (Tryz.prog.cellsOf 3) (List.drop 1 [c0,c1,c2,c3]))=some x1:=hf 1 _ rfl
   have t2:DataW.trod enc Tryz.prog W 0 (fun _=>true) true n 4 (List.take (Tryz.prog.cellsOf 4) (List.drop 2 [c0,c1,c2,c3]))=some x2:=hf 2 _ rfl
   have t3:DataW.trod enc Tryz.prog W 0 (fun _=>true) true n 48 (List.take (Tryz.prog.cellsOf 48) (List.drop 3 [c0,c1,c2,c3]))=some x3:=hf 3 _ rfl
   rw[e0] at t0
   rw[e1] at t1
   rw[e2] at t2
   rw[e3] at t3
   obtain⟨s0,h0,rfl,f0⟩:=DataW.trod_string Tryz.underlying9 t0
   obtain⟨n1,h1,rfl,f1⟩:=DataW.trod_int Tryz.underlying3 t1
   obtain⟨b2,h2,rfl⟩:=DataW.trod_bool Tryz.underlying4 t2
   obtain⟨d3,p3⟩:=x3
   simp only[Prod.mk.injEq] at hx
   obtain⟨rfl,rfl⟩:=hx
   obtain⟨P,v3,h3,hP⟩:=ints_read t3 (fun x hx=>hlt x (by simp[hx]))
   cases h0; cases h1; cases h2; cases h3
   exact⟨⟨s0,n1,b2,c3⟩,rfl,f0,f1,P,hP⟩
theorem open_chgs {base:Nat} {v:Value} {d:DataW H} {ps:List MemPlace} (hval:Value.okWide Tryz.prog W .any base 62 v)
 (h:DataW.Trod enc Tryz.prog W 0 (fun _=>true) true 62 v d ps) (hlt:∀x∈ps,x.block<W.heap.size):∃l,ChgsAt W v l:=by
 obtain⟨a0,len,cap,rfl⟩:=okWide_slice Tryz.underlying62 hval
 obtain⟨fuel,hf⟩:=h
 rcases open_slice Tryz.underlying62 hf with ⟨hcs,hx⟩ | ⟨a,len',cap',m,n,D,Pl,hcs,_,hl,hm,hmm,hx,hi⟩
 ·simp[Value.cells] at hcs
  obtain⟨rfl,rfl,rfl⟩:=hcs
  exact⟨[],RowAt.void W 4,by simp⟩
 ·simp[Value.cells] at hcs
  obtain⟨rfl,rfl,rfl⟩:=hcs
  simp only[Prod.mk.injEq] at hx
  obtain⟨rfl,rfl⟩:=hx
  simp only[if_true] at hmm
  have e4:Tryz.prog.cellsOf 64=4:=by kernel_rfl
  rw[e4] at hi hlt
  have hspot:0<m→a.spot=none:=fun h0=>by
   obtain⟨cs',hc,_⟩:=hi 0 h0
   obtain⟨_,hcl,hat⟩:=World.cells?_some hc
   have h1:=hat 0 (by omega)
   simpa [Addr.add] using World.cell?_spot (h1.trans (List.getElem?_eq_getElem (by rw[hcl]; omega)))
  obtain⟨b,off,spot⟩:=a
  obtain⟨X,hX⟩:=choose_lt (α:=Chg4) (n:=len) (p:=fun i x=>spot=none∧(∀(k:Nat) (y:Value),(chC x)[k]? = some y→W.cell? ⟨b,off+i*4+k,none⟩=some y)∧x.In W) (fun i hil=>by
   obtain⟨cs',hc,ht⟩:=hi i (by omega)
   obtain⟨x,rfl,hG⟩:=chg_read ht (fun p hp=>hlt p (List.mem_append_right _ (List.mem_flatMap.2 ⟨i,List.mem_range.2 (by omega),hp⟩)))
   obtain⟨_,hcl,hat⟩:=World.cells?_some hc
   have hspot:spot=none:=hspot (by omega)
   subst hspot
   refine⟨x,rfl,fun k y hy=>?_,hG⟩
   have hk:k<4:=(List.getElem?_eq_some_iff.1 hy).1
   have h2:=hat k hk
   rw[add_plain,add_plain] at h2
   rw[h2]
   exact hy)
  refine⟨(List.range len).map X,⟨some ⟨b,off,spot⟩,cap,by simp,by simpa using hl,hm,fun hp=>?_⟩,fun x hx=>?_⟩
  ·have hpos:0<len:=by simpa using hp
   obtain⟨rfl,_⟩:=hX 0 hpos
   refine⟨b,off,rfl,hlt (.cell b off) (List.mem_append_left _ (MemPlace.mem_row.2 ⟨0,by show 0<m*4; omega,by simp⟩)),fun k x hx i y hy=>?_⟩
   rw[List.getElem?_map,Option.map_eq_some_iff] at hx
   obtain⟨z,hz,rfl⟩:=hx
   rw[List.getElem?_map,Option.map_eq_some_iff] at hz
   obtain⟨j,hj,rfl⟩:=hz
   have hjj:=List.getElem?_eq_some_iff.1 hj
   have hkl:k<len:=by simpa using hjj.1
   have:j=k:=by simpa using hjj.2.symm
   subst this
   exact(hX j hkl).2.1 i y hy
  ·obtain⟨i,hi',rfl⟩:=List.mem_map.1 hx
   exact(hX i (List.mem_range.1 hi')).2.2
end
end Go.Proofs.YtaphcmcimoloiaaGreatDoor
namespace Go.Proofs.YtaphcmcimoloiaaGreatDoor
open Go Go.RowKit Txt Sp
def gKeep:Sp.Geom:=⟨1,4,12⟩
def prE (x:Sp.Entry):ByteArray×Int:=(x.name,x.inode)
/-- A directory that has just the entries H, whatever is written out of it. -/
structure KeepD (S:Sp.Side) (F:File) (Y:List Int) (r q:Nat) (H:List Sp.Entry):Prop where
 d:Dir gKeep 1 S F [1] Y r q
 ylen:Y.length≤q
 perm:(q6z (ents S.read F)).Perm (H.map prE)
 fl:S.Fl
 ev:q29z gKeep 1 S F
def KeepI (S:Sp.Side) (k:Nat) (H:List Sp.Entry):Prop:=∃F Y r q,KeepD S F Y r q H∧r≤5*k∧H.length≤k
theorem keep_start:KeepI (q9z gKeep 0 0) 0 []:=by
 have hg:gKeep.ok:=by decide
 refine⟨rootF,[],0,0,⟨q152z hg,by decide,?_,?_,root_ever hg⟩,by decide,by decide⟩
 ·have e:q6z (ents (q9z gKeep 0 0).read rootF)=[]:=rfl
  rw[e]
  exact List.Perm.refl _
 ·have hok:=(q152z (g:=gKeep) (node:=0) (epoch:=0) hg).bm.held.ok
  have hd:=(q152z (g:=gKeep) (node:=0) (epoch:=0) hg).bm.dlen
  refine⟨⟨hok.deps,fun c hc=>absurd hc (by simp[q9z]),by simp[q9z],by simp[q9z]⟩,hok.sect,by rw[hd]; decide,fun c hc=>absurd hc (by simp[q9z]),by simp[q9z],by simp[q9z],fun x hx=>absurd hx (by simp[q9z]),fun c hc=>absurd hc (by simp[q9z]),rfl,?_,rfl,rfl⟩
  decide +kernel
section
variable {w wr:World} {B Bd:Nat} {D:Nat→Prop} {S S':Sp.Side} {k:Nat} {H:List Sp.Entry} {F:File} {Y:List Int} {r q:Nat}
theorem KeepI.more (h:KeepI S k H):KeepI S (k+1) H:=by
 obtain⟨F,Y,r,q,h,hr,hl⟩:=h
 exact⟨F,Y,r,q,h,by omega,by omega⟩
theorem KeepI.fl (h:KeepI S k H):S.Fl:=by
 obtain⟨F,Y,r,q,h,-⟩:=h
 exact h.fl
theorem KeepI.few (h:KeepI S k H):S.deps.l.length≤5*k:=by
 obtain⟨F,Y,r,q,h,hr,-⟩:=h
 have:=h.d.bm.held.few
 omega
theorem KeepI.stay (h:KeepI S k H) (hs:S.Stay S') (he:∀F,q29z gKeep 1 S F→q29z gKeep 1 S' F):KeepI S' k H:=by
 obtain⟨F,Y,r,q,⟨d,hy,hp,hf,hev⟩,hr,hl⟩:=h
 have hrd:S'.read=S.read:=funext hs.read
 exact⟨F,Y,r,q,⟨⟨d.bm.stay hs,d.kind,d.links,d.par,d.gen,d.q40,d.size,d.full,by rw[hrd]; exact d.sect,by rw[hrd]; exact d.once⟩,hy,by rw[hrd]; exact hp,hs.fl,he F hev⟩,hr,hl⟩
theorem KeepI.flush (h:KeepI S k H) (pick:Nat→Int):KeepI (S.flush pick) k H:=h.stay (flush_stay h.fl pick) (fun _ he=>flush_kept h.fl he pick)
theorem KeepI.name (h:KeepI S k H):∀x∈H,nameB x.name=true∧x.inode≠0:=by
 obtain⟨F,Y,r,q,⟨d,hy,hp,hf,hev⟩,hr,hl⟩:=h
 intro x hx
 have hm:prE x∈q6z (ents S.read F):=hp.mem_iff.2 (List.mem_map_of_mem hx)
 obtain⟨e,he,h0,h1,h2⟩:=pairs_mem.1 hm
 refine⟨d.nameB_of (q136z.2 ⟨e,he,h0,h1⟩),by omega⟩
theorem keep_add (hM:DMem w 0 B Bd gKeep S D wr) (hm:MaxOk w) (hI:KeepI S k H) (hk:k<30) (x:Sp.Entry) (hn:x.name.size≤maxLen) (vk:Value) (hv:∀W,Turn D wr W→Ints W vk [0]) :
 Calls Tryz.prog 36 #[pt B,gV gKeep,.int .i64 1,eV x,vk,.slice none 0 0] wr fun e w'=>∃v c,e = .returned (.tuple #[v,.int .i64 c])∧∃S',q15z wr 0 B Bd S' D w'∧S'.disk=S.disk ∧
  ((c=70∧¬(x.may∧x.inode≠0)∧KeepI S' k H)∨(c=101∧x.name∈H.map Sp.Entry.name∧KeepI S' k H)∨(c=0∧x.name∉H.map Sp.Entry.name∧KeepI S' (k+1) (H ++ [x]))):=by
 have hI':=hI
 obtain⟨F,Y,r,q,⟨h,hy,hp,hf,hev⟩,hr,hl⟩:=hI
 have hg:gKeep.ok:=by decide
 have h1:(1:Int)≤1:=by decide
 have h2:(1:Int)≤gKeep.groups*gKeep.inodes:=by decide
 have hs:=hM.side
 have hD:=hM.lt
 have hmw:=hM.max hm
 have hlast:=h.bm.held.last
 have hst:=h.stands hg h1 h2
 have hpl:=hp.length_eq
 rw[List.length_map] at hpl
 have hmem:∀n,n∈(q6z (ents S.read F)).map Prod.fst↔n∈H.map Sp.Entry.name:=fun n=>by
  rw[(hp.map Prod.fst).mem_iff,List.map_map]
  rfl
 by_cases hno:x.may∧x.inode≠0→(findE (ents S.read F) x.name).isSome=true
 ·refine(dirAddNo_any hs hst h.ok (h.blkPos hg) (h.hasB hg) hmw x hn vk (.slice none 0 0) hno).mono ?_
  rintro e w' (⟨hnx,rfl,hb⟩ | ⟨hx,hx0,hfd,rfl,hb⟩)
  ·exact⟨_,_,rfl,S,q15z.none hs hb,rfl,Or.inl ⟨rfl,hnx,hI'⟩⟩
  ·refine⟨_,_,rfl,S,q15z.none hs hb,rfl,Or.inr (Or.inl ⟨rfl,?_,hI'⟩)⟩
   rw[←hmem]
   rcases h.find (may_live hx hx0).2 with ⟨y,_,_,_,_,hpy⟩ | ⟨hf2,_⟩
   ·exact List.mem_map.2 ⟨_,hpy,rfl⟩
   ·rw[hf2] at hfd
    cases hfd
 ·rw[Classical.not_imp] at hno
  obtain⟨⟨hx,hx0⟩,hfd⟩:=hno
  obtain⟨hx1,hxn⟩:=may_live hx hx0
  have hf0:findE (ents S.read F) x.name=none:=by
   cases hh:findE (ents S.read F) x.name with
   | none=>rfl
   | some y=>rw[hh] at hfd; exact absurd rfl hfd
  have hnin:x.name∉(q6z (ents S.read F)).map Prod.fst:=by
   rcases h.find hxn with ⟨y,hf2,_⟩ | ⟨_,hn⟩
   ·rw[hf2] at hf0; cases hf0
   ·exact hn
  have hnH:=fun hh=>hnin ((hmem x.name).2 hh)
  cases hfree:findE (ents S.read F) ⟨#[]⟩ with
  | some p=>
    obtain⟨hpm,hp0,hpn⟩:=h.free hfree
    have hok2:∀e∈ents S.read F,¬(e.sec=p.sec∧e.slot=p.slot)→e.name=x.name→x.name.size=0:=fun e he _ hen=>absurd hen (q121z hf0 e he)
    obtain⟨hcc,hd,l1,l2,e1,e2⟩:=h.put hg (by omega) hpm hx hok2 (ahead:=[]) (by simp)
    obtain⟨hfl',hev'⟩:=h.put_ever hg (by omega) hf hev hpm hx hok2
    refine(dirAddIn_any hs hst h.ok (h.blkPos hg) (h.hasB hg) hmw x hn vk (by omega) hx hx0 hf0 hfree hcc).mono ?_
    rintro e w' ⟨v,rfl,hv',ht⟩
    refine⟨_,_,rfl,_,ht,Side.change_disk ..,Or.inr (Or.inr ⟨rfl,hnH,F,Y,r+1,q,⟨hd,hy,?_,hfl',hev'⟩,by omega,by rw[List.length_append]; simp; omega⟩)⟩
    have hpp:(q6z (ents (S.change p.sec ((p.slot:Int)*16) (ofL (slotL x)) []).read F)).Perm ((x.name,x.inode) :: q6z (ents S.read F)):=by
     rw[e2,e1,q16z,q16z,q46z (e:=⟨x.inode,p.sec,p.slot,x.name⟩) hx1,q20z hp0]
     exact List.perm_middle
    rw[List.map_append]
    exact(hpp.trans (hp.cons _)).trans (List.perm_append_comm (l₁:=[prE x]) (l₂:=H.map prE))
  | none=>
    have hfull:=h.noFree hfree
    have hq8:q<8:=by omega
    have hrm:Y.length < [(0:Int)].length*gKeep.blocks.toNat:=by show Y.length<1*12; omega
    have hks:∀k∈[(0:Int)],0≤k∧k<gKeep.groups:=by decide
    have hnd:[(0:Int)].Nodup:=by decide
    obtain⟨hwc,N,t',ht',n0,hF,hb,hmd,hml,himg⟩:=grow8 h hg h1 h2 (by omega) hks hnd hrm hq8
    obtain⟨hfl1,hev1⟩:=grow_ever h hg h1 h2 (by omega) hks hnd hrm hq8 hf hev
    rw[ht'] at hfl1 hev1
    obtain⟨hd1,hqN,hNb,hents⟩:=h.grow hg (by omega) n0 ⟨by rw[hF],by rw[hF],by rw[hF],by rw[hF],by rw[hF],by rw[hF]⟩ hb himg
    have hpm:entOf t'.S.read N 0∈ents t'.S.read t'.F:=by
     rw[hents]
     exact List.mem_append_right _ (q111z.2 ⟨0,by omega,rfl⟩)
    have hN0:(entOf t'.S.read N 0).inode=0:=by unfold entOf; rw[hNb,q96z 0 (by omega)]
    have hfno:∀e∈ents t'.S.read t'.F,¬(e.sec=N∧e.slot=0)→e.name=x.name→x.name.size=0:=fun e he _ hen=>by
     rw[hents] at he
     rcases List.mem_append.1 he with he | he
     ·exact absurd hen (q121z hf0 e he)
     ·obtain⟨k,hk,rfl⟩:=q111z.1 he
      unfold entOf at hen
      rw[hNb,q96z k hk] at hen
      rw[←hen]
      rfl
    obtain⟨hcc,hd2,l1,l2,e1,e2⟩:=hd1.put hg (by omega) hpm hx hfno (ahead:=[]) (by simp)
    obtain⟨hfl2,hev2⟩:=hd1.put_ever hg (by omega) hfl1 hev1 hpm hx hfno
    have hl1:=hb.held.last
    have hdk:t'.S.disk=S.disk:=by rw[←ht']; exact write_disk ..
    refine(dirAddOut_any hs hst h.ok (h.blkPos hg) (h.hasB hg) hmw (hM.maxT hm) x hn hD (by omega) hx hx0 hf0 hfree vk [0] hv hks q (by omega) h.size 0 hwc (by omega) rfl t' ht' N ⟨hd1.stands hg h1 h2,hqN⟩ (by omega) (by omega) hcc).mono ?_
    rintro e w' ⟨v,rfl,hv',ht⟩
    refine⟨_,_,rfl,_,ht,(Side.change_disk ..).trans hdk,Or.inr (Or.inr ⟨rfl,hnH,t'.F,Y ++ [N],r+5,q+1,⟨hd2,by rw[List.length_append]; simp; omega,?_,hfl2,hev2⟩,by omega,by rw[List.length_append]; simp; omega⟩)⟩
    have hp1:q6z (ents t'.S.read t'.F)=q6z (ents S.read F):=by
     have hz:∀k,k<4→(entOf t'.S.read N k).inode=0:=fun k hk=>by
      unfold entOf
      rw[hNb,q96z k hk]
     rw[hents,q16z]
     unfold entsB
     rw[q20z (hz 0 (by omega)),q20z (hz 1 (by omega)),q20z (hz 2 (by omega)),q20z (hz 3 (by omega))]
     exact List.append_nil _
    have hpp:(q6z (ents (t'.S.change N (((0:Nat):Int)*16) (ofL (slotL x)) []).read t'.F)).Perm ((x.name,x.inode) :: q6z (ents S.read F)):=by
     rw[←hp1]
     rw[e1,q16z,q20z hN0,←q16z]
     refine List.Perm.trans (List.Perm.of_eq ?_) (List.perm_middle (a:=(x.name,x.inode)) (l₁:=q6z l1) (l₂:=q6z l2) |>.trans (List.Perm.of_eq (by rw[q16z])))
     exact(congrArg q6z e2).trans (by rw[q16z,q46z (e:=⟨x.inode,(entOf t'.S.read N 0).sec,(entOf t'.S.read N 0).slot,x.name⟩) hx1])
    rw[List.map_append]
    exact(hpp.trans (hp.cons _)).trans (List.perm_append_comm (l₁:=[prE x]) (l₂:=H.map prE))
theorem keep_split (hp:(q6z (ents S.read F)).Perm (H.map prE)) (ho:((q6z (ents S.read F)).map Prod.fst).Nodup) {H1 H2:List Sp.Entry} {y:Sp.Entry} (hH:H=H1 ++ y :: H2) {l1 l2:List Ent} {p:Ent} (e1:ents S.read F=l1 ++ p :: l2) (h1:1≤p.inode) (hn:p.name=y.name):(q6z l1 ++ q6z l2).Perm (H1.map prE ++ H2.map prE):=by
 have hm:(p.name,p.inode)∈q6z (ents S.read F):=by
  rw[e1,q16z,q46z h1]
  exact List.mem_append_right _ (List.mem_cons_self ..)
 have hy:prE y∈q6z (ents S.read F):=hp.mem_iff.2 (by rw[hH,List.map_append,List.map_cons]; exact List.mem_append_right _ (List.mem_cons_self ..))
 have he:(p.name,p.inode)=prE y:=by
  have hpw:=List.pairwise_iff_getElem.1 ho
  obtain⟨a,ha,ea⟩:=List.getElem_of_mem hm
  obtain⟨b,hb,eb⟩:=List.getElem_of_mem hy
  rcases Nat.lt_trichotomy a b with hlt | rfl | hlt
  ·exact absurd (by rw[List.getElem_map,List.getElem_map,ea,eb]; exact hn) (hpw a b (by simpa using ha) (by simpa using hb) hlt)
  ·rw[←ea,eb]
  ·exact absurd (by rw[List.getElem_map,List.getElem_map,ea,eb]; exact hn.symm) (hpw b a (by simpa using hb) (by simpa using ha) hlt)
 rw[e1,q16z,q46z h1,hH,List.map_append,List.map_cons,←he] at hp
 exact(List.perm_cons _).1 ((List.perm_middle.symm.trans hp).trans List.perm_middle)
theorem keep_remove (hM:DMem w 0 B Bd gKeep S D wr) (hm:MaxOk w) (hI:KeepI S k H) (hk:k<30) (n:ByteArray) (hn:n.size≤maxLen) (hnb:nameB n=true) :
 Calls Tryz.prog 35 #[pt B,gV gKeep,.int .i64 1,.string n,.slice none 0 0] wr fun e w'=>∃a c,e = .returned (.tuple #[.int .i64 a,.int .i64 c])∧∃S',q15z wr 0 B Bd S' D w'∧S'.disk=S.disk ∧
  ((c=100∧n∉H.map Sp.Entry.name∧KeepI S' k H)∨(c=0∧n∈H.map Sp.Entry.name∧∀H1 y H2,H=H1 ++ y :: H2→y.name=n→KeepI S' (k+1) (H1 ++ H2))):=by
 have hI':=hI
 obtain⟨F,Y,r,q,⟨h,hy,hp,hf,hev⟩,hr,hl⟩:=hI
 have hg:gKeep.ok:=by decide
 have h1:(1:Int)≤1:=by decide
 have h2:(1:Int)≤gKeep.groups*gKeep.inodes:=by decide
 have hs:=hM.side
 have hlast:=h.bm.held.last
 have hmem:∀n,n∈(q6z (ents S.read F)).map Prod.fst↔n∈H.map Sp.Entry.name:=fun n=>by
  rw[(hp.map Prod.fst).mem_iff,List.map_map]
  rfl
 refine(dirRemove_any hs (h.stands hg h1 h2) h.ok (h.blkPos hg) (h.hasB hg) (hM.max hm) n (by unfold maxLen at hn; omega) (by omega) (.slice none 0 0) [] (show Ints wr (.slice none 0 0) [] from RowAt.void wr 1) (by simp)).mono ?_
 rintro e w' (⟨hc,rfl,hb⟩ | ⟨x,hc,hfr,rfl,ht⟩)
 ·refine⟨_,_,rfl,S,q15z.none hs hb,rfl,Or.inl ?_⟩
  unfold findC at hc ⊢
  rw[if_pos hnb] at hc ⊢
  rcases h.find hnb with ⟨x,hfd,_,_,_,hpx⟩ | ⟨hfd,hno⟩
  ·rw[hfd] at hc
   exact absurd rfl hc
  ·rw[hfd]
   exact⟨rfl,fun hh=>hno ((hmem n).2 hh),hI'⟩
 ·have hff:findE (ents S.read F) n=some x:=by
   unfold findR at hfr
   rw[if_pos hnb] at hfr
   exact hfr
  obtain⟨hx,hxn⟩:=found_of hff
  have hx1:=h.live hx (by rw[hxn]; exact hnb)
  have hok2:∀e∈ents S.read F,¬(e.sec=x.sec∧e.slot=x.slot)→e.name=(⟨0,⟨#[]⟩⟩:Sp.Entry).name→(⟨0,⟨#[]⟩⟩:Sp.Entry).name.size=0:=fun _ _ _ _=>rfl
  obtain⟨hcc,hd,l1,l2,e1,e2⟩:=h.put hg (by omega) hx (x:=⟨0,⟨#[]⟩⟩) (Or.inl ⟨rfl,rfl⟩) hok2 (ahead:=[]) (by simp)
  obtain⟨hfl',hev'⟩:=h.put_ever hg (by omega) hf hev hx (x:=⟨0,⟨#[]⟩⟩) (Or.inl ⟨rfl,rfl⟩) hok2
  refine⟨_,_,rfl,_,ht,Side.change_disk ..,Or.inr ⟨hcc,?_,fun H1 y H2 hH hyn=>⟨F,Y,r+1,q,⟨hd,hy,?_,hfl',hev'⟩,by omega,?_⟩⟩⟩
  ·rw[←hmem,←hxn]
   exact q136z.2 ⟨x,hx,by omega,rfl⟩
  ·rw[e2,q16z,q20z (e:=⟨0,x.sec,x.slot,⟨#[]⟩⟩) rfl,List.map_append]
   exact keep_split hp h.once hH e1 hx1 (hxn.trans hyn.symm)
  ·rw[hH] at hl
   rw[List.length_append,List.length_cons] at hl
   rw[List.length_append]
   omega
theorem keep_set (hM:DMem w 0 B Bd gKeep S D wr) (hm:MaxOk w) (hI:KeepI S k H) (hk:k<30) {H1 H2:List Sp.Entry} {y:Sp.Entry} (hH:H=H1 ++ y :: H2) (x:Sp.Entry) (hxy:x.name=y.name) (hn:x.name.size≤maxLen) (hi:1≤x.inode∧x.inode≤65535) :
 Calls Tryz.prog 50 #[pt B,gV gKeep,.int .i64 1,.string x.name,.int .i64 x.inode,.slice none 0 0] wr fun e w'=>∃a,e = .returned (.tuple #[.int .i64 a,.int .i64 0])∧∃S',q15z wr 0 B Bd S' D w'∧S'.disk=S.disk∧KeepI S' (k+1) (H1 ++ x :: H2):=by
 have hnm:=(hI.name y (by rw[hH]; exact List.mem_append_right _ (List.mem_cons_self ..))).1
 obtain⟨F,Y,r,q,⟨h,hy,hp,hf,hev⟩,hr,hl⟩:=hI
 have hg:gKeep.ok:=by decide
 have h1:(1:Int)≤1:=by decide
 have h2:(1:Int)≤gKeep.groups*gKeep.inodes:=by decide
 have hs:=hM.side
 have hlast:=h.bm.held.last
 have hmem:∀n,n∈(q6z (ents S.read F)).map Prod.fst↔n∈H.map Sp.Entry.name:=fun n=>by
  rw[(hp.map Prod.fst).mem_iff,List.map_map]
  rfl
 rw[←hxy] at hnm
 have hin:x.name∈(q6z (ents S.read F)).map Prod.fst:=by
  rw[hmem,hH,List.map_append,List.map_cons,hxy]
  exact List.mem_append_right _ (List.mem_cons_self ..)
 obtain⟨p,hfp,hpm,hpn,hp1,-⟩:∃e,findE (ents S.read F) x.name=some e∧e∈ents S.read F∧e.name=x.name∧1≤e.inode∧(x.name,e.inode)∈q6z (ents S.read F):=by
  rcases h.find hnm with hh | ⟨_,hno⟩
  ·exact hh
  ·exact absurd hin hno
 have hc0:findC (ents S.read F) x.name=0:=by
  unfold findC
  rw[if_pos hnm,hfp]
  rfl
 have hmay:(⟨x.inode,x.name⟩:Sp.Entry).may:=Or.inr ⟨hi.1,hi.2,hnm⟩
 refine(dirSet_any hs (h.stands hg h1 h2) h.ok (h.blkPos hg) (h.hasB hg) (hM.max hm) x.name (by unfold maxLen at hn; omega) (by omega) (.slice none 0 0) [] (show Ints wr (.slice none 0 0) [] from RowAt.void wr 1) (by simp) x.inode hi.1 hi.2 hc0).mono ?_
 rintro e w' ⟨p2,hfr,rfl,ht⟩
 have hpp:p2=p:=by
  unfold findR at hfr
  rw[if_pos hnm,hfp] at hfr
  exact(Option.some.inj hfr).symm
 subst hpp
 have hok2:∀e∈ents S.read F,¬(e.sec=p2.sec∧e.slot=p2.slot)→e.name=(⟨x.inode,x.name⟩:Sp.Entry).name→(⟨x.inode,x.name⟩:Sp.Entry).name.size=0:=fun e he hne hen=>by
  -- no name stands twice
  exfalso
  have hei:=h.live he (by rw[show e.name=x.name from hen]; exact hnm)
  obtain⟨l1,l2,e1,-,hno⟩:=put_split h.keys hpm ⟨0,⟨#[]⟩⟩
  have ho:=h.once
  rw[e1,q16z,q46z hp1,List.map_append,List.map_cons,List.perm_middle.nodup_iff,List.nodup_cons,←List.map_append,←q16z] at ho
  refine ho.1 (q136z.2 ⟨e,?_,by omega,hen.trans hpn.symm⟩)
  rw[e1] at he
  rcases List.mem_append.1 he with he | he
  ·exact List.mem_append_left _ he
  ·rcases List.mem_cons.1 he with rfl | he
   ·exact absurd ⟨rfl,rfl⟩ hne
   ·exact List.mem_append_right _ he
 obtain⟨hcc,hd,l1,l2,e1,e2⟩:=h.put hg (by omega) hpm hmay hok2 (ahead:=[]) (by simp)
 obtain⟨hfl',hev'⟩:=h.put_ever hg (by omega) hf hev hpm hmay hok2
 refine⟨_,by rw[hcc],_,ht,Side.change_disk ..,F,Y,r+1,q,⟨hd,hy,?_,hfl',hev'⟩,by omega,?_⟩
 ·rw[e2,q16z,q46z (e:=⟨x.inode,p2.sec,p2.slot,x.name⟩) hi.1,List.map_append,List.map_cons]
  have hks:=keep_split hp h.once hH e1 hp1 (hpn.trans hxy)
  exact(List.perm_middle.trans (hks.cons _)).trans List.perm_middle.symm
 ·rw[hH] at hl
  rw[List.length_append,List.length_cons] at hl ⊢
  exact Nat.le_trans hl (Nat.le_succ k)
end
end Go.Proofs.YtaphcmcimoloiaaGreatDoor
