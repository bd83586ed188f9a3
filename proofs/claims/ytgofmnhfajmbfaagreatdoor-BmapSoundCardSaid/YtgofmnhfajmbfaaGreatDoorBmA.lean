/-
 BmA: BmStop,BmDoor,BmMem,InodePatch,BmNote,BmChange,BmFresh.
-/
import Derived.Test.YtgofmnhfajmbfaaGreatDoorAllB
import Derived.Test.YtgofmnhfajmbfaaGreatDoorSpH
set_option maxRecDepth 20000
set_option maxHeartbeats 2000000
namespace Go.Proofs.YtgofmnhfajmbfaaGreatDoor
open Go Go.RowKit
def stopE (c:Int):Ending:=.panicked [{ v:=.iface 259 (.int .i64 c),recovered:=false }]
theorem q170z (w:World):Calls Tryz.prog 99 #[.int .i64 0] w fun e w'=>e = .returned (.tuple #[])∧w' = w:=by
 go_enter Tryz.func99,Tryz.ntmps99
 go_wp2
 go_end0
 exact⟨rfl,rfl⟩
theorem must_no (w:World) {c:Int} (h:c≠0):Calls Tryz.prog 99 #[.int .i64 c] w fun e w'=>e=stopE c∧w' = w:=by
 have q:(c != 0)=true:=by simp[h]
 go_enter Tryz.func99,Tryz.ntmps99
 go_wp2
 exact⟨rfl,rfl,rfl⟩
theorem q76z (p:Addr) (w:World) :
 CallsD Tryz.prog 96 #[.pointer (some p)] .returning w fun e u' w'=>e = .returned (.tuple #[])∧u' = .returning∧w' = w:=by
 refine callsD_of_wpS Tryz.func96 rfl fun c₀ cs hu=>?_
 apply wpS_seq
 apply wpS_region
 simp[wpOpsS,go_sem,recoverD,hu,Tryz.ntmps96,Exit.thenS]
 apply wpS_seq
 apply wpS_region
 simp[wpOpsS,go_sem,Exit.thenS]
 refine wpS_cond (t:=false) (by simp[Act.eval]) ?_
 simp only[Bool.false_eq_true,if_false]
 refine wpS_of_wp (wp_skip ?_)
 cases c₀
 simp_all [bodyPostS,results,Tryz.results96]
theorem assert_stop (c:Int) (W:World):(Instr.typeAssert (.iface 259 (.int .i64 c)) 20 259 true).run Tryz.prog W = .ok (.tuple #[.int .i64 c,.bool true]) W:=by kernel_rfl
theorem caught_stop (p:Addr) (c:Int) (x:Value) (older:List PanicEntry) (w:World) (hc:w.cell? p=some x) (hz:w.frozen? p=false) :
 CallsD Tryz.prog 96 #[.pointer (some p)] (.panicking ({ v:=.iface 259 (.int .i64 c),recovered:=false } :: older)) w fun e u' w'=>
  e = .returned (.tuple #[])∧u' = .panicking ({ v:=.iface 259 (.int .i64 c),recovered:=true } :: older)∧w' = w.setCell p (.int .i64 c):=by
 refine callsD_of_wpS Tryz.func96 rfl fun c₀ cs hu=>?_
 apply wpS_seq
 apply wpS_region
 simp[wpOpsS,go_sem,recoverD,hu,Tryz.ntmps96,Exit.thenS]
 apply wpS_seq
 apply wpS_region
 simp[wpOpsS,go_sem,Exit.thenS]
 refine wpS_cond (t:=true) (by simp[Act.eval]) ?_
 simp only[if_true]
 have hta:∀W:World,(Instr.typeAssert (.iface 259 (.int .i64 c)) 20 259 true).run Tryz.prog W = .ok (.tuple #[.int .i64 c,.bool true]) W:=assert_stop c
 refine wpS_of_wp ?_
 generalize hR:(fun e a' w'=>bodyPostS _ _ _ _ _ e a' _ w')=R
 have ht:(#[.pointer (some p)] ++ ((((Array.replicate 18 undef).setIfInBounds 4 (.iface 259 (.int .i64 c))).setIfInBounds 1 (.iface 259 (.int .i64 c))).setIfInBounds 5 (.iface 259 (.int .i64 c))).setIfInBounds 6 (.bool true):Array Value)=#[.pointer (some p),undef,.iface 259 (.int .i64 c),undef,undef,.iface 259 (.int .i64 c),.iface 259 (.int .i64 c),.bool true,undef,undef,undef,undef,undef,undef,undef,undef,undef,undef,undef]:=by kernel_rfl
 rw[ht]
 go_wp2
 subst hR
 refine⟨rfl,.panicking ({ v:=.iface 259 (.int .i64 c),recovered:=true } :: older),rfl,.tuple #[],?_,rfl,rfl,rfl⟩
 simp[results,Tryz.results96]
theorem leaves_results {P:Program} {fn:Func} {t1 t2:Array Value} {R:Ending→World→Prop} (h:results fn t1=results fn t2):∀(ds:List Deferred) (u:FrameMode) (w:World),Leaves P fn t1 R ds u w→Leaves P fn t2 R ds u w
 | [],.returning,_,⟨v,hr,hR⟩=>⟨v,by rw[←h]; exact hr,hR⟩
 | [],.panicking _,_,hR=>hR
 | [],.run,_,hf=>hf.elim
 | d :: ds,u,w,⟨h0,fv,cap,f,args,ht,hi,hc⟩=>⟨h0,fv,cap,f,args,ht,hi,hc.mono fun e u' w' hp=>by
    cases e with
    | returned v=>exact leaves_results h ds _ _ hp
    | panicked c=>exact leaves_results h ds _ _ hp
    | outgrown=>exact hp⟩
theorem q23z {P:Program} {fn:Func} {R:Ending→World→Prop} {K:Act→World→Prop} {d:Nat} {v:Value} (h:∀t:Array Value,results fn (t.setIfInBounds d v)=results fn t) (c:List PanicEntry) (a:Act) (w:World)
 (hp:Exit.then K (bodyPostD P fn R) (.panic c) (a.put (some d) v) w):Exit.then K (bodyPostD P fn R) (.panic c) a w:=
 leaves_results (h a.tmps) a.defers (.panicking c) w hp
theorem q59z (d:Nat) (v:Value) (h1:d≠12) (h2:d≠13) (t:Array Value):results Tryz.f83 (t.setIfInBounds d v)=results Tryz.f83 t:=by
 simp[results,Tryz.results83,Array.getElem?_setIfInBounds,h1,h2]
end Go.Proofs.YtgofmnhfajmbfaaGreatDoor
namespace Go.Proofs.YtgofmnhfajmbfaaGreatDoor
open Go Go.RowKit Txt Sp
def fileA (B:Nat) (g:Sp.Geom) (i at_:Int) (n:Sp.Inode) (m:Int) (vb vm:Value):Array Value:=
 #[pt B,.int .i64 g.groups,.int .i64 g.inodes,.int .i64 g.blocks,.int .i64 i,.int .i64 at_,.int .i64 n.kind,.int .i64 n.links,.int .i64 n.size,.int .i64 n.parent,.int .i64 n.gen,
  .int .i64 (n.direct.getD 0 0),.int .i64 (n.direct.getD 1 0),.int .i64 (n.direct.getD 2 0),.int .i64 (n.direct.getD 3 0),.int .i64 (n.direct.getD 4 0),.int .i64 (n.direct.getD 5 0),.int .i64 (n.direct.getD 6 0),.int .i64 (n.direct.getD 7 0),.int .i64 m,vb,vm]
def fileO (B:Nat) (g:Sp.Geom) (i at_:Int) (n:Sp.Inode) (m:Int) (vb vm:Value):Obj:=.cells (fileA B g i at_ n m vb vm) 163 (0,0)
/-- An open file at the block Bf: since w0 nothing turned but what D0 tells, and what is new. -/
structure FC (w0:World) (base B Bd Bf:Nat) (D0:Nat→Prop) (g:Sp.Geom) (i at_:Int) (n:Sp.Inode) (S:Sp.Side) (F:File) (vb vm:Value) (D:Nat→Prop) (wr:World):Prop where
 side:SideAt wr base B Bd S D
 lt:∀j,D j→j<wr.heap.size
 sub:∀j,D j→D0 j∨w0.heap.size≤j
 lo:w0.heap.size≤Bf
 nf:¬D Bf
 nb:∀b,vb.ownBlock=some b→¬D b
 box:wr.heap[Bf]? = some (fileO B g i at_ n F.more vb vm)
 blk:OwnR 3 1 intC w0.heap.size wr vb F.blocks
 tn:Turn D0 w0 wr
 bs:base≤w0.heap.size
def Foot (Bf:Nat) (vb vm:Value) (D:Nat→Prop) (j:Nat):Prop:=D j∨j=Bf∨vb.ownBlock=some j∨vm.ownBlock=some j
/-- With the changes that were made. -/
structure FM (w0:World) (base B Bd Bf:Nat) (D0:Nat→Prop) (g:Sp.Geom) (i at_:Int) (n:Sp.Inode) (t:BSt) (vb vm:Value) (D:Nat→Prop) (wr:World):Prop where
 core:FC w0 base B Bd Bf D0 g i at_ n t.S t.F vb vm D wr
 mad:OwnR 3 1 intC w0.heap.size wr vm t.made
 nm:∀b,vm.ownBlock=some b→¬D b
 nbm:∀b,vb.ownBlock=some b→vm.ownBlock≠some b
theorem ownBlock_cells {α:Type} {e:TypeId} {size base:Nat} {f:α→List Value} {w:World} {v:Value} {l:List α} (h:OwnR e size f base w v l) {b:Nat} (hb:v.ownBlock=some b):∃cs,w.heap[b]? = some (.cells cs e (0,0)):=by
 obtain⟨_,⟨rfl,_⟩ | ⟨g,cap,cur,rfl,hg,hh,_⟩⟩:=h
 ·cases hb
 ·cases hb
  exact⟨_,hh⟩
theorem ownBlock_ne {α:Type} {e e':TypeId} {size base:Nat} {f:α→List Value} {w:World} {v:Value} {l:List α} (h:OwnR e size f base w v l) {b:Nat} {cs:Array Value} {fr:Nat×Nat} (hc:w.heap[b]? = some (.cells cs e' fr)) (hne:e≠e'):v.ownBlock≠some b:=fun hb=>by
 obtain⟨cs',hc'⟩:=ownBlock_cells h hb
 rw[hc] at hc'
 cases hc'
 exact hne rfl
section
variable {w0 wr wr':World} {base B Bd Bf:Nat} {D0 D K:Nat→Prop} {g:Sp.Geom} {i at_:Int} {n:Sp.Inode} {t t':BSt} {vb vm:Value} {S S':Sp.Side} {F F':File}
theorem FC.bf (h:FC w0 base B Bd Bf D0 g i at_ n S F vb vm D wr):Bf<wr.heap.size:=(Array.getElem?_eq_some_iff.1 h.box).1
theorem FC.turn (h:FC w0 base B Bd Bf D0 g i at_ n S F vb vm D wr) (hT:Turn K wr wr') (hD:∀j,K j→¬D j) (hf:¬K Bf) (hv:∀b,vb.ownBlock=some b→¬K b) (h0:∀j,K j→w0.heap.size≤j):FC w0 base B Bd Bf D0 g i at_ n S F vb vm D wr':=
 ⟨h.side.turn hT (fun k hk hK=>hD k hK hk) (fun k hK=>Nat.le_trans h.bs (h0 k hK)),fun j hj=>Nat.lt_of_lt_of_le (h.lt j hj) hT.size,h.sub,h.lo,h.nf,h.nb,hT.heap h.box hf,h.blk.turn hT hv,h.tn.trans (K:=D0) hT (fun _ _ h=>h) (fun j hj hK=>by have:=h0 j hK; omega),h.bs⟩
theorem FC.below (h:FC w0 base B Bd Bf D0 g i at_ n S F vb vm D wr) (hb:Below wr.heap.size wr wr'):FC w0 base B Bd Bf D0 g i at_ n S F vb vm D wr':=
 h.turn (K:=fun _=>False) (Turn.of_below hb) (fun _ h=>h.elim) (fun h=>h) (fun _ _ h=>h) (fun _ h=>h.elim)
theorem FM.below (h:FM w0 base B Bd Bf D0 g i at_ n t vb vm D wr) (hb:Below wr.heap.size wr wr'):FM w0 base B Bd Bf D0 g i at_ n t vb vm D wr':=
 ⟨h.core.below hb,OwnR.below h.mad hb,h.nm,h.nbm⟩
theorem FM.to (h:FM w0 base B Bd Bf D0 g i at_ n t vb vm D wr) (hs:q18z wr base B Bd S' D wr'):FM w0 base B Bd Bf D0 g i at_ n ⟨S',t.F,t.made⟩ vb vm (fun j=>D j∨(wr.heap.size≤j∧j<wr'.heap.size)) wr':=by
 obtain⟨hs1,K,hK,hT⟩:=hs
 obtain⟨h,hmad,hnm,hnbm⟩:=h
 have hsz:=hT.size
 have lb:=h.bf
 have l0:=h.tn.size
 have hnK:∀k,¬D k→¬K k:=fun k hd hk=>hd (hK k hk)
 refine⟨⟨hs1,fun j hj=>?_,fun j hj=>?_,h.lo,?_,fun b hb=>?_,hT.heap h.box (hnK _ h.nf),h.blk.turn hT (fun k hk=>hnK _ (h.nb k hk)),?_,h.bs⟩,hmad.turn hT (fun k hk=>hnK _ (hnm k hk)),fun b hb=>?_,hnbm⟩
 ·rcases hj with hj | hj
  ·have:=h.lt j hj; omega
  ·exact hj.2
 ·rcases hj with hj | hj
  ·exact h.sub j hj
  ·exact Or.inr (by omega)
 ·rintro(hj | hj)
  ·exact h.nf hj
  ·omega
 ·rintro(hj | hj)
  ·exact h.nb b hb hj
  ·have:=(h.blk.lt b hb).2
   omega
 ·refine h.tn.trans hT (fun _ _ h=>h) (fun k hk hKk=>?_)
  exact(h.sub k (hK k hKk)).elim id (fun hd=>by omega)
 ·rintro(hj | hj)
  ·exact hnm b hb hj
  ·have:=(hmad.lt b hb).2
   omega
theorem FC.set (h:FC w0 base B Bd Bf D0 g i at_ n S F vb vm D wr) {k:Nat} {v:Value} {vb' vm':Value} (ha:(fileA B g i at_ n F.more vb vm).setIfInBounds k v=fileA B g i at_ n F'.more vb' vm')
 (hb1:OwnR 3 1 intC w0.heap.size wr vb' F'.blocks) (h1:∀b,vb'.ownBlock=some b→¬D b):FC w0 base B Bd Bf D0 g i at_ n S F' vb' vm' D (wr.setCell ⟨Bf,k,none⟩ v):=by
 have hT:=q14z (w:=wr) (b:=Bf) (k:=k) (v:=v)
 have hz:wr.heap.size≤(wr.setCell ⟨Bf,k,none⟩ v).heap.size:=hT.size
 have n1:vb'.ownBlock≠some Bf:=ownBlock_ne hb1 h.box (by decide)
 refine⟨h.side.turn hT (fun k hk e=>h.nf (e ▸ hk)) (fun k e=>by have:=h.bs; have:=h.lo; omega),fun j hj=>Nat.lt_of_lt_of_le (h.lt j hj) hz,h.sub,h.lo,h.nf,h1,?_,hb1.turn hT (fun k hk e=>n1 (e ▸ hk)),?_,h.bs⟩
 ·have h2:=q13z (k:=k) h.box v
  rw[ha] at h2
  exact h2
 ·exact h.tn.trans (K:=D0) hT (fun _ _ h=>h) (fun j hj e=>by have:=h.lo; omega)
theorem FM.app (h:FM w0 base B Bd Bf D0 g i at_ n t vb vm D wr) {W' w':World} {gb m cap:Nat} {md:List Int} (hb:Below wr.heap.size wr W') (hg:W'.grownBy w' vm.ownBlock)
 (hr:OwnR 3 1 intC w0.heap.size w' (.slice (some ⟨gb,0,none⟩) m cap) md) (hat:vm.ownBlock=some gb∨W'.heap.size≤gb) :
 FM w0 base B Bd Bf D0 g i at_ n ⟨t.S,t.F,md⟩ vb (.slice (some ⟨gb,0,none⟩) m cap) D (w'.setCell ⟨Bf,21,none⟩ (.slice (some ⟨gb,0,none⟩) m cap))∧w'.heap[Bf]? = some (fileO B g i at_ n t.F.more vb vm) ∧
  Turn (Foot Bf vb vm D) wr (w'.setCell ⟨Bf,21,none⟩ (.slice (some ⟨gb,0,none⟩) m cap))∧∀j,Foot Bf vb (.slice (some ⟨gb,0,none⟩) m cap) D j→Foot Bf vb vm D j∨wr.heap.size≤j:=by
 have hT:Turn (fun j=>vm.ownBlock=some j) W' w':=⟨hg.os,hg.tape,hg.output,hg.size,fun k hk hne=>hg.block k hk (fun e=>hne e.symm)⟩
 have h1:=h.below hb
 have hc:FC w0 base B Bd Bf D0 g i at_ n t.S t.F vb vm D w':=h1.core.turn hT (fun j hj=>h.nm j hj) (ownBlock_ne h1.mad h1.core.box (by decide)) (fun b hb'=>h.nbm b hb') (fun j hj=>(h.mad.lt j hj).1)
 have hgb:∀b,(Value.slice (some ⟨gb,0,none⟩) m cap).ownBlock=some b→b=gb:=fun b e=>by
  have e:gb=b:=by simpa [Value.ownBlock] using e
  exact e.symm
 refine⟨⟨hc.set (k:=21) (F':=t.F) (vb':=vb) (vm':=.slice (some ⟨gb,0,none⟩) m cap) rfl hc.blk hc.nb,?_,fun b hb'=>?_,fun b hb' e=>?_⟩,hc.box,?_,?_⟩
 ·exact hr.turn (q14z (b:=Bf) (k:=21)) (fun k hk e=>ownBlock_ne hr hc.box (by decide) (e ▸ hk))
 ·rw[hgb b hb']
  intro hd
  rcases hat with hat | hat
  ·exact h.nm _ hat hd
  ·have:=h1.core.lt _ hd
   omega
 ·have:=hgb b e
  subst this
  rcases hat with hat | hat
  ·exact h.nbm _ hb' hat
  ·have:=(h1.core.blk.lt _ hb').2
   omega
 ·exact((Turn.of_below (K:=Foot Bf vb vm D) hb).trans hT (fun _ _ h=>h) (fun j _ hj=>Or.inr (Or.inr (Or.inr hj)))).trans (K:=Foot Bf vb vm D) (q14z (b:=Bf) (k:=21)) (fun _ _ h=>h) (fun j _ hj=>Or.inr (Or.inl hj))
 ·rintro j (hj | hj | hj | hj)
  ·exact Or.inl (Or.inl hj)
  ·exact Or.inl (Or.inr (Or.inl hj))
  ·exact Or.inl (Or.inr (Or.inr (Or.inl hj)))
  ·have:=hgb j hj
   subst this
   rcases hat with hat | hat
   ·exact Or.inl (Or.inr (Or.inr (Or.inr hat)))
   ·exact Or.inr (Nat.le_trans hb.size hat)
theorem FM.all (h:FM w0 base B Bd Bf D0 g i at_ n t vb vm D wr) (hT:Turn (Foot Bf vb vm D) wr wr'):Turn D0 w0 wr':=by
 refine h.core.tn.trans hT (fun _ _ h=>h) (fun j hj hk=>?_)
 rcases hk with hk | hk | hk | hk
 ·exact(h.core.sub j hk).elim id (fun hd=>by omega)
 ·have:=h.core.lo; omega
 ·have:=(h.core.blk.lt j hk).1; omega
 ·have:=(h.mad.lt j hk).1; omega
theorem FM.footLt (h:FM w0 base B Bd Bf D0 g i at_ n t vb vm D wr):∀j,Foot Bf vb vm D j→j<wr.heap.size:=by
 rintro j (hj | hj | hj | hj)
 ·exact h.core.lt j hj
 ·rw[hj]; exact h.core.bf
 ·exact(h.core.blk.lt j hj).2
 ·exact(h.mad.lt j hj).2
theorem q18z.foot (hs:q18z wr base B Bd S' D wr'):Turn (Foot Bf vb vm D) wr wr'∧∀j,Foot Bf vb vm (fun j=>D j∨(wr.heap.size≤j∧j<wr'.heap.size)) j→Foot Bf vb vm D j∨wr.heap.size≤j:=by
 obtain⟨_,K,hK,hT⟩:=hs
 refine⟨hT.mono (fun j _ hj=>Or.inl (hK j hj)),?_⟩
 rintro j ((hj | hj) | hj)
 ·exact Or.inl (Or.inl hj)
 ·exact Or.inr hj.1
 ·exact Or.inl (Or.inr hj)
theorem FM.blkSet (h:FM w0 base B Bd Bf D0 g i at_ n t vb vm D wr) {q:Nat} (hq:q<t.F.blocks.length) (b:Int) :
 ∃gb cap,vb = .slice (some ⟨gb,0,none⟩) t.F.blocks.length cap∧(∃x,wr.cell? ⟨gb,q,none⟩=some x)∧wr.frozen? ⟨gb,q,none⟩=false ∧
  FM w0 base B Bd Bf D0 g i at_ n ⟨t.S,{ t.F with blocks:=t.F.blocks.set q b },t.made⟩ vb vm D (wr.setCell ⟨gb,q,none⟩ (.int .i64 b))∧Turn (fun j=>j=gb) wr (wr.setCell ⟨gb,q,none⟩ (.int .i64 b)):=by
 obtain⟨h,hmad,hnm,hnbm⟩:=h
 have hblk:=h.blk
 obtain⟨hx,⟨rfl,h0⟩ | ⟨gb,cap,cur,rfl,hgb,hh,hnc,hm,hcs,ht⟩⟩:=hblk
 ·omega
 have hkc:q<cur.size:=by omega
 have hgB:gb≠Bf:=fun e=>by
  have h1:=h.box
  rw[←e,hh] at h1
  cases h1
 have hT:=q14z (w:=wr) (b:=gb) (k:=q) (v:=.int .i64 b)
 have hst:=(World.ownsRow.stored h.blk q (.int .i64 b)).1
 have hz:wr.heap.size≤(wr.setCell ⟨gb,q,none⟩ (.int .i64 b)).heap.size:=hT.size
 refine⟨gb,cap,rfl,?_,q4z hh,⟨⟨h.side.turn hT (fun k hk e=>h.nb gb rfl (e ▸ hk)) (fun k e=>by have:=h.bs; omega),fun j hj=>Nat.lt_of_lt_of_le (h.lt j hj) hz,h.sub,h.lo,h.nf,h.nb,hT.heap h.box (fun e=>hgB e.symm),?_,h.tn.trans (K:=D0) hT (fun _ _ h=>h) (fun j hj e=>by omega),h.bs⟩,hmad.turn hT (fun k hk e=>hnbm gb rfl (e ▸ hk)),hnm,hnbm⟩,hT⟩
 ·rw[World.cell?]
  simp[hh,hkc]
 ·unfold OwnR
  dsimp only
  rw[q97z,List.map_set,←q97z]
  simpa using hst
end
section
theorem imore_any (w:World) (m:Int) (h0:0≤m) (h1:m<65536):Calls Tryz.prog 271 #[.int .i64 m] w fun e w'=>e = .returned (.tuple #[.agg #[.int .i64 24,.string (putB 2 m)],.int .i64 0])∧Below w.heap.size w w':=by
 have hp:=fun W:World=>fput2_any W 24 m (by omega) (by omega) h0 h1
 obtain⟨off,hoff⟩:∃x:Int,24=x:=⟨_,rfl⟩
 obtain⟨S,hS⟩:=zx (putB 2 m)
 rw[hS] at hp ⊢
 rw[hoff] at hp
 have HP:=zh hp
 clear hp
 clear hS h0 h1
 go_enter Tryz.func271,Tryz.ntmps271
 go_wp2_with fail
 subst hoff
 refine(HP.out _).mono ?_
 rintro e w1 ⟨rfl,hb1⟩
 obtain⟨off,hoff⟩:∃x:Int,24=x:=⟨_,rfl⟩
 rw[hoff]
 clear HP
 have hz:=put2 (heapOld hb1 (heapNew w _)) (.int .i64 off) (.string S)
 have HZ:=zh hz
 have HB1:=zh ((((blN (bl2 _) hb1).setCell (p:=⟨w.heap.size,0,none⟩) (Nat.le_refl _) (.int .i64 off)).setCell (p:=⟨w.heap.size,1,none⟩) (Nat.le_refl _) (.string S)))
 have hz1:=heapOld hb1 (heapNew w _)
 have y0:=zc 0 hz1
 have y1:=zc 1 hz1
 have v0:w1.frozen? ⟨w.heap.size,0,none⟩=false:=q4z hz1
 have v1:w1.frozen? ⟨w.heap.size,1,none⟩=false:=q4z hz1
 have hlt:w.heap.size<w1.heap.size:=by have:=hb1.size; simp at this; omega
 clear hb1 hz hz1
 go_wp2
 obtain⟨Wf,hWf⟩:=zx (((w1.setCell ⟨w.heap.size,0,none⟩ (.int .i64 off)).setCell ⟨w.heap.size,1,none⟩ (.string S)))
 have hb4:Below w.heap.size w Wf:=by rw[←hWf]; exact HB1.out
 have hw4:=HZ.out
 rw[hWf] at hw4 ⊢
 have y0:=zc 0 hw4
 have y1:=zc 1 hw4
 refine bodyPost_ret (v:=.tuple #[.agg #[.int .i64 off,.string S],.int .i64 0]) (by simp[results,Tryz.results271,go_sem,y0,y1]) rfl ?_
 exact⟨by rw[hoff],hb4⟩
theorem isize_any (w:World) (m:Int) (h0:0≤m) (h1:m<65536):Calls Tryz.prog 163 #[.int .i64 m] w fun e w'=>e = .returned (.tuple #[.agg #[.int .i64 2,.string (putB 2 m)],.int .i64 0])∧Below w.heap.size w w':=by
 have hp:=fun W:World=>fput2_any W 2 m (by omega) (by omega) h0 h1
 obtain⟨off,hoff⟩:∃x:Int,2=x:=⟨_,rfl⟩
 obtain⟨S,hS⟩:=zx (putB 2 m)
 rw[hS] at hp ⊢
 rw[hoff] at hp
 have HP:=zh hp
 clear hp
 clear hS h0 h1
 go_enter Tryz.func163,Tryz.ntmps163
 go_wp2_with fail
 subst hoff
 refine(HP.out _).mono ?_
 rintro e w1 ⟨rfl,hb1⟩
 obtain⟨off,hoff⟩:∃x:Int,2=x:=⟨_,rfl⟩
 rw[hoff]
 clear HP
 have hz:=put2 (heapOld hb1 (heapNew w _)) (.int .i64 off) (.string S)
 have HZ:=zh hz
 have HB1:=zh ((((blN (bl2 _) hb1).setCell (p:=⟨w.heap.size,0,none⟩) (Nat.le_refl _) (.int .i64 off)).setCell (p:=⟨w.heap.size,1,none⟩) (Nat.le_refl _) (.string S)))
 have hz1:=heapOld hb1 (heapNew w _)
 have y0:=zc 0 hz1
 have y1:=zc 1 hz1
 have v0:w1.frozen? ⟨w.heap.size,0,none⟩=false:=q4z hz1
 have v1:w1.frozen? ⟨w.heap.size,1,none⟩=false:=q4z hz1
 have hlt:w.heap.size<w1.heap.size:=by have:=hb1.size; simp at this; omega
 clear hb1 hz hz1
 go_wp2
 obtain⟨Wf,hWf⟩:=zx (((w1.setCell ⟨w.heap.size,0,none⟩ (.int .i64 off)).setCell ⟨w.heap.size,1,none⟩ (.string S)))
 have hb4:Below w.heap.size w Wf:=by rw[←hWf]; exact HB1.out
 have hw4:=HZ.out
 rw[hWf] at hw4 ⊢
 have y0:=zc 0 hw4
 have y1:=zc 1 hw4
 refine bodyPost_ret (v:=.tuple #[.agg #[.int .i64 off,.string S],.int .i64 0]) (by simp[results,Tryz.results163,go_sem,y0,y1]) rfl ?_
 exact⟨by rw[hoff],hb4⟩
theorem iat_any (w:World) (f k m b:Int) (hf:0≤f∧f≤8) (hk:0≤k∧k<m) (hm:f+2*m≤64) (h0:0≤b) (h1:b<65536):Calls Tryz.prog 300 #[.int .i64 f,.int .i64 k,.int .i64 m,.int .i64 b] w fun e w'=>e = .returned (.tuple #[.agg #[.int .i64 (f+2*k),.string (putB 2 b)],.int .i64 0])∧Below w.heap.size w w':=by
 have hp:=fun W:World=>fput2_any W (f+2*k) b (by omega) (by omega) h0 h1
 have q1:decide (k<0)=false:=decide_eq_false (by omega)
 have q2:decide (k≥m)=false:=decide_eq_false (by omega)
 have e1:IntKind.i64.wrap (2*k)=2*k:=IntWalk.i64_in _ (by omega)
 have e2:IntKind.i64.wrap (f+2*k)=f+2*k:=IntWalk.i64_in _ (by omega)
 obtain⟨S,hS⟩:=zx (putB 2 b)
 rw[hS] at hp ⊢
 have HP:=zh hp
 clear hp
 clear hS h0 h1 hf hk hm
 go_enter Tryz.func300,Tryz.ntmps300
 go_wp2_with fail
 refine(HP.out _).mono ?_
 rintro e w1 ⟨rfl,hb1⟩
 obtain⟨off,hoff⟩:∃x:Int,f+2*k=x:=⟨_,rfl⟩
 rw[hoff]
 clear HP
 have hz:=put2 (heapOld hb1 (heapNew w _)) (.int .i64 off) (.string S)
 have HZ:=zh hz
 have HB1:=zh ((((blN (bl2 _) hb1).setCell (p:=⟨w.heap.size,0,none⟩) (Nat.le_refl _) (.int .i64 off)).setCell (p:=⟨w.heap.size,1,none⟩) (Nat.le_refl _) (.string S)))
 have hz1:=heapOld hb1 (heapNew w _)
 have y0:=zc 0 hz1
 have y1:=zc 1 hz1
 have v0:w1.frozen? ⟨w.heap.size,0,none⟩=false:=q4z hz1
 have v1:w1.frozen? ⟨w.heap.size,1,none⟩=false:=q4z hz1
 have hlt:w.heap.size<w1.heap.size:=by have:=hb1.size; simp at this; omega
 clear hb1 hz hz1
 go_wp2
 obtain⟨Wf,hWf⟩:=zx (((w1.setCell ⟨w.heap.size,0,none⟩ (.int .i64 off)).setCell ⟨w.heap.size,1,none⟩ (.string S)))
 have hb4:Below w.heap.size w Wf:=by rw[←hWf]; exact HB1.out
 have hw4:=HZ.out
 rw[hWf] at hw4 ⊢
 have y0:=zc 0 hw4
 have y1:=zc 1 hw4
 refine bodyPost_ret (v:=.tuple #[.agg #[.int .i64 off,.string S],.int .i64 0]) (by simp[results,Tryz.results300,go_sem,y0,y1]) rfl ?_
 exact⟨by rw[hoff],hb4⟩
theorem idirect_any (w:World) (k b:Int) (hk:0≤k∧k<8) (h0:0≤b) (h1:b<65536):Calls Tryz.prog 272 #[.int .i64 k,.int .i64 b] w fun e w'=>e = .returned (.tuple #[.agg #[.int .i64 (8+2*k),.string (putB 2 b)],.int .i64 0])∧Below w.heap.size w w':=by
 have hp:=fun W:World=>iat_any W 8 k 8 b (by omega) hk (by omega) h0 h1
 obtain⟨S,hS⟩:=zx (putB 2 b)
 rw[hS] at hp ⊢
 obtain⟨off,hoff⟩:∃x:Int,8+2*k=x:=⟨_,rfl⟩
 rw[hoff] at hp ⊢
 have HP:=zh hp
 clear hp
 clear hS h0 h1 hk hoff
 go_enter Tryz.func272,Tryz.ntmps272
 go_wp2_with fail
 refine(HP.out _).mono ?_
 rintro e w1 ⟨rfl,hb1⟩
 clear HP
 have hz:=put2 (heapOld hb1 (heapNew w _)) (.int .i64 off) (.string S)
 have HZ:=zh hz
 have HB1:=zh ((((blN (bl2 _) hb1).setCell (p:=⟨w.heap.size,0,none⟩) (Nat.le_refl _) (.int .i64 off)).setCell (p:=⟨w.heap.size,1,none⟩) (Nat.le_refl _) (.string S)))
 have hz1:=heapOld hb1 (heapNew w _)
 have y0:=zc 0 hz1
 have y1:=zc 1 hz1
 have v0:w1.frozen? ⟨w.heap.size,0,none⟩=false:=q4z hz1
 have v1:w1.frozen? ⟨w.heap.size,1,none⟩=false:=q4z hz1
 have hlt:w.heap.size<w1.heap.size:=by have:=hb1.size; simp at this; omega
 clear hb1 hz hz1
 go_wp2
 obtain⟨Wf,hWf⟩:=zx (((w1.setCell ⟨w.heap.size,0,none⟩ (.int .i64 off)).setCell ⟨w.heap.size,1,none⟩ (.string S)))
 have hb4:Below w.heap.size w Wf:=by rw[←hWf]; exact HB1.out
 have hw4:=HZ.out
 rw[hWf] at hw4 ⊢
 have y0:=zc 0 hw4
 have y1:=zc 1 hw4
 refine bodyPost_ret (v:=.tuple #[.agg #[.int .i64 off,.string S],.int .i64 0]) (by simp[results,Tryz.results272,go_sem,y0,y1]) rfl ?_
 exact⟨rfl,hb4⟩
theorem iitem_any (w:World) (k b:Int) (hk:0≤k∧k<32) (h0:0≤b) (h1:b<65536):Calls Tryz.prog 273 #[.int .i64 k,.int .i64 b] w fun e w'=>e = .returned (.tuple #[.agg #[.int .i64 (0+2*k),.string (putB 2 b)],.int .i64 0])∧Below w.heap.size w w':=by
 have hp:=fun W:World=>iat_any W 0 k 32 b (by omega) hk (by omega) h0 h1
 obtain⟨S,hS⟩:=zx (putB 2 b)
 rw[hS] at hp ⊢
 obtain⟨off,hoff⟩:∃x:Int,0+2*k=x:=⟨_,rfl⟩
 rw[hoff] at hp ⊢
 have HP:=zh hp
 clear hp
 clear hS h0 h1 hk hoff
 go_enter Tryz.func273,Tryz.ntmps273
 go_wp2_with fail
 refine(HP.out _).mono ?_
 rintro e w1 ⟨rfl,hb1⟩
 clear HP
 have hz:=put2 (heapOld hb1 (heapNew w _)) (.int .i64 off) (.string S)
 have HZ:=zh hz
 have HB1:=zh ((((blN (bl2 _) hb1).setCell (p:=⟨w.heap.size,0,none⟩) (Nat.le_refl _) (.int .i64 off)).setCell (p:=⟨w.heap.size,1,none⟩) (Nat.le_refl _) (.string S)))
 have hz1:=heapOld hb1 (heapNew w _)
 have y0:=zc 0 hz1
 have y1:=zc 1 hz1
 have v0:w1.frozen? ⟨w.heap.size,0,none⟩=false:=q4z hz1
 have v1:w1.frozen? ⟨w.heap.size,1,none⟩=false:=q4z hz1
 have hlt:w.heap.size<w1.heap.size:=by have:=hb1.size; simp at this; omega
 clear hb1 hz hz1
 go_wp2
 obtain⟨Wf,hWf⟩:=zx (((w1.setCell ⟨w.heap.size,0,none⟩ (.int .i64 off)).setCell ⟨w.heap.size,1,none⟩ (.string S)))
 have hb4:Below w.heap.size w Wf:=by rw[←hWf]; exact HB1.out
 have hw4:=HZ.out
 rw[hWf] at hw4 ⊢
 have y0:=zc 0 hw4
 have y1:=zc 1 hw4
 refine bodyPost_ret (v:=.tuple #[.agg #[.int .i64 off,.string S],.int .i64 0]) (by simp[results,Tryz.results273,go_sem,y0,y1]) rfl ?_
 exact⟨rfl,hb4⟩
theorem bpatch_any (w:World) (off:Int) (S:ByteArray):Calls Tryz.prog 162 #[.agg #[.int .i64 off,.string S],.int .i64 0] w fun e w'=>e = .returned (.agg #[.int .i64 off,.string S])∧Below w.heap.size w w':=by
 have hmu:=fun W:World=>q170z W
 have HMU:=zh hmu
 clear hmu
 go_enter Tryz.func162,Tryz.ntmps162
 go_wp2_with fail
 refine(HMU.out _).mono ?_
 rintro e w1 ⟨rfl,hw1⟩
 subst hw1
 obtain⟨W1,hW1⟩:=zx ((w.alloc (.cells #[.int .i64 off,.string S] 167)))
 have hs1:W1.heap.size=w.heap.size+1:=by rw[←hW1]; simp
 obtain⟨W2,hW2⟩:=zx (W1.alloc (.cells #[.int .i64 0,.string ⟨#[]⟩] 167))
 have HB2:Hid (Below w.heap.size w W2):=by rw[←hW2,←hW1]; exact bl1 (bl2 _) _
 have hz0:W2.heap[w.heap.size]? = some (.cells #[.int .i64 off,.string S] 167 (0,0)):=by rw[←hW2,←hW1]; exact heapOld (bl2 _) (heapNew w _)
 have hz1:W2.heap[w.heap.size+1]? = some (.cells #[.int .i64 0,.string ⟨#[]⟩] 167 (0,0)):=by rw[←hW2,←hs1]; exact heapNew W1 _
 rw[hW1,hW2]
 have x0:=zc 0 hz0
 have x1:=zc 1 hz0
 have y0:=zc 0 hz1
 have y1:=zc 1 hz1
 have v0:W2.frozen? ⟨w.heap.size+1,0,none⟩=false:=q4z hz1
 have v1:W2.frozen? ⟨w.heap.size+1,1,none⟩=false:=q4z hz1
 have HZ:=zh (put2 hz1 (.int .i64 off) (.string S))
 have HB3:=zh ((HB2.out.setCell (p:=⟨w.heap.size+1,0,none⟩) (Nat.le_succ _) (.int .i64 off)).setCell (p:=⟨w.heap.size+1,1,none⟩) (Nat.le_succ _) (.string S))
 clear hz0 hz1 hs1 hW1 hW2 HMU
 go_wp2
 obtain⟨Wf,hWf⟩:=zx (((W2.setCell ⟨w.heap.size+1,0,none⟩ (.int .i64 off)).setCell ⟨w.heap.size+1,1,none⟩ (.string S)))
 have hb4:Below w.heap.size w Wf:=by rw[←hWf]; exact HB3.out
 have hw4:=HZ.out
 rw[hWf] at hw4 ⊢
 have y0:=zc 0 hw4
 have y1:=zc 1 hw4
 refine bodyPost_ret (v:=.agg #[.int .i64 off,.string S]) (by simp[results,Tryz.results162,go_sem,y0,y1]) rfl ?_
 exact⟨rfl,hb4⟩
end
def FDone (w0:World) (base B Bd Bf:Nat) (D0:Nat→Prop) (g:Sp.Geom) (i at_:Int) (n:Sp.Inode) (vb:Value) (K:Nat→Prop) (w:World) (c:Int) (v:Value) (t':BSt) (e:Ending) (w':World):Prop:=
 ((c=0∧e = .returned v∧∃vm D,FM w0 base B Bd Bf D0 g i at_ n t' vb vm D w'∧∀j,Foot Bf vb vm D j→K j∨w.heap.size≤j)∨(c≠0∧e=stopE c))∧Turn K w w'
section
variable {w0 w:World} {base B Bd Bf:Nat} {D0 D:Nat→Prop} {g:Sp.Geom} {i at_:Int} {n:Sp.Inode} {t:BSt} {vb vm:Value}
theorem fnote_any (h:FM w0 base B Bd Bf D0 g i at_ n t vb vm D w) (hm:t.made.length≤1000000) (c code:Int) :
 Calls Tryz.prog 102 #[pt Bf,.int .i64 c,.int .i64 code] w (FDone w0 base B Bd Bf D0 g i at_ n vb (Foot Bf vb vm D) w code (.int .i64 c) ⟨t.S,t.F,t.made ++ [c]⟩):=by
 unfold pt
 by_cases h0:code=0
 ·subst h0
  have hmu:=fun W:World=>q170z W
  have hfin:∀w' vm2,(FM w0 base B Bd Bf D0 g i at_ n ⟨t.S,t.F,t.made ++ [c]⟩ vb vm2 D w'∧(∀j,Foot Bf vb vm2 D j→Foot Bf vb vm D j∨w.heap.size≤j)∧Turn (Foot Bf vb vm D) w w')→FDone w0 base B Bd Bf D0 g i at_ n vb (Foot Bf vb vm D) w 0 (.int .i64 c) ⟨t.S,t.F,t.made ++ [c]⟩ (.returned (.int .i64 c)) w':=fun w' vm2 h=>⟨Or.inl ⟨rfl,rfl,vm2,D,h.1,h.2.1⟩,h.2.2⟩
  obtain⟨Q,hQ⟩:=zx (FDone w0 base B Bd Bf D0 g i at_ n vb (Foot Bf vb vm D) w 0 (.int .i64 c) ⟨t.S,t.F,t.made ++ [c]⟩)
  rw[hQ] at hfin ⊢
  obtain⟨S,F,md⟩:=t
  dsimp only at hm hfin
  have hb0:=h.core.tn.size
  have c21:=zc 21 h.core.box
  have H:=zh h
  have HMU:=zh hmu
  have HFIN:=zh hfin
  have HQ:=zh hQ
  have HB0:=zh hb0
  clear h hmu hfin hQ hb0
  go_enter Tryz.func102,Tryz.ntmps102
  go_wp2_with fail
  refine(HMU.out _).mono ?_
  rintro e w1 ⟨rfl,hw1⟩
  replace hw1:=hw1.symm
  subst hw1
  obtain⟨ia,ib,ic,id,ie⟩:=info_parts q81z
  have hrow:=H.out.mad
  unfold OwnR at hrow
  have HRow:=zh hrow
  have HIb:=zh ib
  have HIc:=zh ic
  have HId:=zh id
  have HIe:=zh ie
  clear hrow ib ic id ie
  go_wp2_with (at_builtin; refine wpList_append_lies _ rfl _ _ _ rfl w0.heap.size 3 ia _ 1 8 Tryz.underlying58 HIb.out HIc.out HId.out HIe.out rfl (by decide) _ _ _ rfl (HRow.out.alloc _) ⟨w.heap.size,0,none⟩ 1 1 [.int .i64 c] rfl rfl (World.news_of_block (cs:=#[.int .i64 c]) (t:=3) (fr:=(0,0)) (heapNew w _)) (by simp[Value.oneCell']) (by omega) ?c1 ?c2 ?c3 (w.heap.size+1) (by simp) ?_)
  case c1=>unfold maxLen; omega
  case c2=>omega
  case c3=>have:=HB0.out; simp; omega
  intro gb cap8 w8 hown hgrow hat hlt8
  have hr8:=OwnR.snoc (f:=intC) (x:=c) hown rfl rfl
  obtain⟨hM8,hx8,hT8,hF8⟩:=H.out.app (bl2 _) hgrow hr8 (hat.imp_right fun h=>by simp; omega)
  have HF8:=zh (HFIN.out _ _ ⟨hM8,hF8,hT8⟩)
  have d21:=zc 21 hx8
  have f21:=q4z (k:=21) hx8
  clear hown hgrow hat hlt8 hr8 HRow hM8 hx8 c21 hT8 hF8
  go_wp2
  first | exact HF8.out | (go_ret; exact HF8.out)
 ·have hmu:=fun W:World=>must_no W h0
  have HF:=zh (show FDone w0 base B Bd Bf D0 g i at_ n vb (Foot Bf vb vm D) w code (.int .i64 c) ⟨t.S,t.F,t.made ++ [c]⟩ (stopE code) w from⟨Or.inr ⟨h0,rfl⟩,Turn.refl _ _⟩)
  obtain⟨Q,hQ⟩:=zx (FDone w0 base B Bd Bf D0 g i at_ n vb (Foot Bf vb vm D) w code (.int .i64 c) ⟨t.S,t.F,t.made ++ [c]⟩)
  rw[hQ] at HF ⊢
  unfold stopE at HF hmu
  have HMU:=zh hmu
  clear hmu
  clear h hm hQ h0
  go_enter Tryz.func102,Tryz.ntmps102
  go_wp2_with fail
  refine(HMU.out _).mono ?_
  rintro e w1 ⟨rfl,hw1⟩
  replace hw1:=hw1.symm
  subst hw1
  go_wp2
  exact⟨rfl,HF.out⟩
end
section
variable {w0 w w1:World} {base B Bd Bf:Nat} {D0 D K K1:Nat→Prop} {g:Sp.Geom} {i at_:Int} {n:Sp.Inode} {t t':BSt} {vb vm:Value}
theorem FDone.ahead {c:Int} {v:Value} {e:Ending} {w':World} (h:FDone w0 base B Bd Bf D0 g i at_ n vb K1 w1 c v t' e w') (hk:∀j,K1 j→K j∨w.heap.size≤j) (hT:Turn K w w1):FDone w0 base B Bd Bf D0 g i at_ n vb K w c v t' e w':=by
 obtain⟨h1,h2⟩:=h
 refine⟨h1.imp_left fun⟨a,b,vm,D,h,hf⟩=>⟨a,b,vm,D,h,fun j hj=>?_⟩,hT.trans h2 (fun _ _ h=>h) (fun j hj hK=>(hk j hK).elim id (fun h=>by omega))⟩
 rcases hf j hj with hj | hj
 ·exact hk j hj
 ·exact Or.inr (Nat.le_trans hT.size hj)
theorem q105z (h:FM w0 base B Bd Bf D0 g i at_ n t vb vm D w) (hS:t.S.Ok) (hl:t.S.deps.last<1000000000) (hm:t.made.length≤1000000) (j off:Int) (x:ByteArray) (v:Value) (ahead:List Int) (hv:Ints w v ahead) (hal:ahead.length≤100000) :
 Calls Tryz.prog 100 #[pt Bf,.int .i64 j,.agg #[.int .i64 off,.string x],v] w (FDone w0 base B Bd Bf D0 g i at_ n vb (Foot Bf vb vm D) w (t.S.changeC j off x ahead) (.int .i64 (t.S.changeN j off x ahead)) (t.chg j off x ahead)):=by
 obtain⟨W1,hW1⟩:=zx (w.alloc (.cells #[.int .i64 off,.string x] 167))
 have hb1:Below w.heap.size w W1:=by rw[←hW1]; exact bl2 _
 have hz1:W1.heap[w.heap.size]? = some (.cells #[.int .i64 off,.string x] 167 (0,0)):=by rw[←hW1]; exact heapNew w _
 have hs1:W1.heap.size=w.heap.size+1:=by rw[←hW1]; simp
 have hbd:Below w.heap.size w W1.drew:=blD hb1
 have hM1:=h.below hbd
 have hch:=softChange_any hM1.core.side hS hl j off x v ahead (hv.below hbd) hal
 have x0:=zc 0 hz1
 have x1:=zc 1 hz1
 have y0:=zc 0 hM1.core.box
 have hnD:¬Foot Bf vb vm D w.heap.size:=fun hf=>by have:=h.footLt _ hf; omega
 have hnote:=fun w3 (hs:q18z W1.drew base B Bd (t.S.change j off x ahead) D w3)=>show Calls _ _ _ _ (FDone w0 base B Bd Bf D0 g i at_ n vb _ w3 _ _ (t.chg j off x ahead)) from fnote_any (hM1.to hs) hm (t.S.changeN j off x ahead) (t.S.changeC j off x ahead)
 have hS3:∀w3,q18z W1.drew base B Bd (t.S.change j off x ahead) D w3→(w3.cell? ⟨Bf,0,none⟩=some (.pointer (some ⟨B,0,none⟩))∧w3.cell? ⟨w.heap.size,0,none⟩=some (.int .i64 off)∧w3.cell? ⟨w.heap.size,1,none⟩=some (.string x)):=fun w3 hs=>by
  have g1:=(hM1.to hs).core.box
  have g2:=hs.heap (show W1.drew.heap[w.heap.size]? = _ from hz1) (fun hd=>hnD (Or.inl hd))
  exact⟨zc 0 g1,zc 0 g2,zc 1 g2⟩
 have hfin:∀w3 (vm2:Value) e w4,q18z W1.drew base B Bd (t.S.change j off x ahead) D w3→FDone w0 base B Bd Bf D0 g i at_ n vb (Foot Bf vb vm (fun j=>D j∨(W1.drew.heap.size≤j∧j<w3.heap.size))) w3 (t.S.changeC j off x ahead) (.int .i64 (t.S.changeN j off x ahead)) (t.chg j off x ahead) e w4 →
  FDone w0 base B Bd Bf D0 g i at_ n vb (Foot Bf vb vm D) w (t.S.changeC j off x ahead) (.int .i64 (t.S.changeN j off x ahead)) (t.chg j off x ahead) e w4 ∧
  (t.S.changeC j off x ahead=0→(w4.cell? ⟨Bf,0,none⟩=some (.pointer (some ⟨B,0,none⟩))∧w4.cell? ⟨w.heap.size,0,none⟩=some (.int .i64 off)∧w4.cell? ⟨w.heap.size,1,none⟩=some (.string x))):=fun w3 _ e w4 hs hd=>by
  have hF:=hs.foot (Bf:=Bf) (vb:=vb) (vm:=vm)
  have hsz:w.heap.size≤W1.drew.heap.size:=hbd.size
  refine⟨hd.ahead (fun j hj=>(hF.2 j hj).imp_right (fun h=>Nat.le_trans hsz h)) ((Turn.of_below hbd).trans hF.1 (fun _ _ h=>h) (fun _ _ h=>h)),fun h0=>?_⟩
  obtain⟨hd1,hT⟩:=hd
  rcases hd1 with ⟨_,_,vm',D',hM',_⟩ | ⟨hne,_⟩
  ·have g2:=hs.heap (show W1.drew.heap[w.heap.size]? = _ from hz1) (fun hd=>hnD (Or.inl hd))
   have g3:=hT.heap g2 (fun hd=>(hF.2 _ hd).elim hnD (fun hle=>by
    have:W1.drew.heap.size=w.heap.size+1:=hs1
    omega))
   exact⟨cellOf (k:=0) hM'.core.box rfl,zc 0 g3,zc 1 g3⟩
  ·exact absurd h0 hne
 obtain⟨N,hN⟩:=zx (t.S.changeN j off x ahead)
 obtain⟨C,hC⟩:=zx (t.S.changeC j off x ahead)
 have hch2:Calls Tryz.prog 176 #[pt B,.int .i64 j,.agg #[.int .i64 off,.string x],v] W1.drew fun e w3=>e = .returned (.tuple #[.int .i64 N,.int .i64 C])∧q18z W1.drew base B Bd (t.S.change j off x ahead) D w3:=hch.mono fun e w3 hp=>by
  have:=hp.to
  rw[hN,hC] at this
  exact this
 rw[hN,hC] at hnote hfin ⊢
 have hT0:Turn (Foot Bf vb vm D) w w:=Turn.refl _ _
 unfold pt at hch2 hnote y0 ⊢
 obtain⟨Q,hQ⟩:=zx (FDone w0 base B Bd Bf D0 g i at_ n vb (Foot Bf vb vm D) w C (.int .i64 N) (t.chg j off x ahead))
 rw[hQ] at hfin ⊢
 obtain⟨T1,hT1⟩:=zx (t.chg j off x ahead)
 rw[hT1] at hnote hfin
 clear hT1
 obtain⟨S1,hS1⟩:=zx (t.S.change j off x ahead)
 rw[hS1] at hch2 hnote hS3 hfin
 have HCH2:=zh hch2
 have HNOTE:=zh hnote
 have HS3:=zh hS3
 have HFIN:=zh hfin
 clear hch2 hnote hS3 hfin
 have hSd:(W1.drew.cell? ⟨Bf,0,none⟩=some (.pointer (some ⟨B,0,none⟩))∧W1.drew.cell? ⟨w.heap.size,0,none⟩=some (.int .i64 off)∧W1.drew.cell? ⟨w.heap.size,1,none⟩=some (.string x)):=⟨y0,x0,x1⟩
 clear h hS hl hm hv hal hb1 hz1 hs1 hbd hM1 hch hN hC hT0 hQ hS1 x0 x1 y0 hnD
 go_enter Tryz.func100,Tryz.ntmps100
 go_wp2_with fail
 refine wp_region_held_drew (S:=(fun W=>W.cell? ⟨Bf,0,none⟩=some (.pointer (some ⟨B,0,none⟩))∧W.cell? ⟨w.heap.size,0,none⟩=some (.int .i64 off)∧W.cell? ⟨w.heap.size,1,none⟩=some (.string x))) (by kernel_rfl) (by first | trivial | assumption) (fun hHeld=>?_)
 refine tkH 0 ?_; simp only[Act.put,ps0]
 refine tkH 1 ?_; simp only[Act.put,ps0]
 refine tkH 2 ?_; simp only[Act.put,ps0]
 refine tkH 3 ?_; simp only[Act.put,ps0]
 refine tkH 4 ?_; simp only[Act.put,ps0]
 refine tkH 5 ?_; simp only[Act.put,ps0]
 refine tkH 6 ?_; simp only[Act.put,ps0]
 refine tkH 7 ?_; simp only[Act.put,ps0]
 refine wpAnyH_ready (rs:=[8]) (by kernel_rfl) (by simp) ?_
 refine AllReadyH.cons rfl (fun K hK=>?_) AllReadyH.nil
 try simp only[gg0]
 go_simp
 refine HCH2.out.mono ?_
 rintro e w3 ⟨rfl,hs⟩
 have hs3:=HS3.out w3 hs
 have HN3:=zh (HNOTE.out w3 hs)
 have HF3:=zh (fun e w4=>HFIN.out w3 vm e w4 hs)
 clear hs
 try simp only
 refine hK.out _ _ ?hkS (fun hHeld=>?_)
 case hkS=>
  exact hs3
 clear hK K
 try simp only[Act.put,ps0]
 refine tkH 9 ?_; simp only[Act.put,ps0]
 refine tkH 10 ?_; simp only[Act.put,ps0]
 refine wpAnyH_ready (rs:=[11]) (by kernel_rfl) (by simp) ?_
 refine AllReadyH.cons rfl (fun K hK=>?_) AllReadyH.nil
 try simp only[gg0]
 go_simp
 refine HN3.out.mono ?_
 intro e w4 hd
 obtain⟨HF4,h4⟩:=HF3.out e w4 hd
 have HF4:=zh HF4
 rcases hd.1 with ⟨h0,rfl,-⟩ | ⟨h0,rfl⟩
 ·have hs4:=h4 h0
  clear hd h4
  try simp only
  refine hK.out _ _ ?hkS (fun hHeld=>?_)
  case hkS=>
   exact hs4
  clear hK K
  try simp only[Act.put,ps0]
  refine tkH 12 ?_; simp only[Act.put,ps0]
  refine wpAnyH_done (by kernel_rfl) ?_ _
  go_wp2
  first | exact HF4.out | (go_ret; exact HF4.out)
 ·clear hd h4
  unfold stopE at HF4 ⊢
  exact⟨rfl,HF4.out⟩
end
def Fine (t:BSt):Prop:=t.S.Ok∧t.S.deps.last≤900000000+t.made.length
theorem Fine.last {t:BSt} (h:Fine t) (hm:t.made.length≤1000000):t.S.deps.last<1000000000:=by have:=h.2; omega
theorem Fine.one {t:BSt} (h:Fine t) (hm:t.made.length≤1000000) {S':Sp.Side} (ho:One t.S S') (F':File) (c:Int):Fine ⟨S',F',t.made ++ [c]⟩:=by
 have:=ho.ok h.1 (h.last hm)
 have h2:=h.2
 refine⟨this.1,?_⟩
 show S'.deps.last≤900000000+(t.made ++ [c]).length
 rw[List.length_append,List.length_singleton]
 omega
theorem Fine.chg {t:BSt} (h:Fine t) (hm:t.made.length≤1000000) (j off:Int) (x:ByteArray) (ahead:List Int):Fine (t.chg j off x ahead):=h.one hm (change_one ..) _ _
theorem Fine.took {t:BSt} (h:Fine t) (hm:t.made.length≤1000000) (g:Sp.Geom) (ks:List Int):Fine (t.took g ks):=h.one hm (block_one ..) _ _
theorem Fine.fresh {t:BSt} (h:Fine t) (hm:t.made.length+1≤1000000) (g:Sp.Geom) (ks:List Int) (x:ByteArray):Fine (t.fresh g ks x):=
 (h.took (by omega) g ks).chg (by show(t.made ++ [_]).length≤_; rw[List.length_append,List.length_singleton]; exact hm) _ _ _ _
def q165z (w0:World) (base B Bd Bf:Nat) (D0:Nat→Prop) (g:Sp.Geom) (i at_:Int) (n:Sp.Inode) (vb:Value) (K:Nat→Prop) (w:World) (c N:Int) (A:List Int) (t':BSt) (e:Ending) (w':World):Prop:=
 ((c=0∧∃va,e = .returned (.tuple #[.int .i64 N,va])∧OwnR 3 1 intC w.heap.size w' va A∧∃vm D,FM w0 base B Bd Bf D0 g i at_ n t' vb vm D w'∧(∀j,Foot Bf vb vm D j→K j∨w.heap.size≤j)∧∀b,va.ownBlock=some b→¬Foot Bf vb vm D b)∨(c≠0∧e=stopE c))∧Turn K w w'
theorem ints_new (w:World) (c:Int):Ints (w.alloc (.cells #[.int .i64 c] 3)) (.slice (some ⟨w.heap.size,0,none⟩) 1 1) [c]:=
 OwnR.row (f:=intC) (fun _ _=>rfl) (OwnR.block (l:=[c]) (heapNew w _) rfl rfl (Nat.le_refl _) (by show(1:Nat)≤_; decide))
section
variable {w0 w w1:World} {base B Bd Bf:Nat} {D0 D K K1:Nat→Prop} {g:Sp.Geom} {i at_:Int} {n:Sp.Inode} {t t':BSt} {vb vm:Value}
theorem ffresh_any (h:FM w0 base B Bd Bf D0 g i at_ n t vb vm D w) (hf:Fine t) (hm:t.made.length+1≤1000000) (hg:g.ok) (x:ByteArray) (vk:Value) (ks:List Int) (hv:Ints w vk ks) (hks:∀k∈ks,0≤k∧k<g.groups) :
 Calls Tryz.prog 228 #[pt Bf,.string x,vk] w (q165z w0 base B Bd Bf D0 g i at_ n vb (Foot Bf vb vm D) w (t.freshC g ks x) (t.newN g ks) (t.newA g ks x) (t.fresh g ks x)):=by
 have hbd:Below w.heap.size w w.drew:=blD (Below.refl _ _)
 have hM0:=h.below hbd
 have hbl:=ablock_any hM0.core.side hM0.core.lt hf.1 (hf.last (by omega)) hg vk ks (hv.below hbd) hks
 unfold GotPost at hbl
 have hnote:=fun w3 (hs:q18z w.drew base B Bd (t.S.block g ks).1 D w3)=>show Calls _ _ _ _ (FDone w0 base B Bd Bf D0 g i at_ n vb _ w3 _ _ (t.took g ks)) from fnote_any (hM0.to hs) (show t.made.length≤1000000 by omega) (t.S.block g ks).2.2.1 (t.S.block g ks).2.2.2
 have hS3:∀w3,q18z w.drew base B Bd (t.S.block g ks).1 D w3→(w3.cell? ⟨Bf,0,none⟩=some (.pointer (some ⟨B,0,none⟩))∧w3.cell? ⟨Bf,1,none⟩=some (.int .i64 g.groups)∧w3.cell? ⟨Bf,2,none⟩=some (.int .i64 g.inodes)∧w3.cell? ⟨Bf,3,none⟩=some (.int .i64 g.blocks)):=fun w3 hs=>by
  have g1:=(hM0.to hs).core.box
  exact⟨zc 0 g1,zc 1 g1,zc 2 g1,zc 3 g1⟩
 have hSd:(w.drew.cell? ⟨Bf,0,none⟩=some (.pointer (some ⟨B,0,none⟩))∧w.drew.cell? ⟨Bf,1,none⟩=some (.int .i64 g.groups)∧w.drew.cell? ⟨Bf,2,none⟩=some (.int .i64 g.inodes)∧w.drew.cell? ⟨Bf,3,none⟩=some (.int .i64 g.blocks)):=
  ⟨zc 0 hM0.core.box,zc 1 hM0.core.box,zc 2 hM0.core.box,zc 3 hM0.core.box⟩
 have hN:∀w3 e w4,q18z w.drew base B Bd (t.S.block g ks).1 D w3→FDone w0 base B Bd Bf D0 g i at_ n vb (Foot Bf vb vm (fun j=>D j∨(w.drew.heap.size≤j∧j<w3.heap.size))) w3 (t.S.block g ks).2.2.2 (.int .i64 (t.S.block g ks).2.2.1) (t.took g ks) e w4 →
  FDone w0 base B Bd Bf D0 g i at_ n vb (Foot Bf vb vm D) w (t.S.block g ks).2.2.2 (.int .i64 (t.S.block g ks).2.2.1) (t.took g ks) e w4:=fun w3 e w4 hs hd=>by
  have hF:=hs.foot (Bf:=Bf) (vb:=vb) (vm:=vm)
  exact hd.ahead (fun j hj=>(hF.2 j hj).imp_right (fun h=>h)) ((Turn.of_below hbd).trans hF.1 (fun _ _ h=>h) (fun _ _ h=>h))
 have hl1:(t.took g ks).made.length≤1000000:=by show(t.made ++ [_]).length≤_; rw[List.length_append,List.length_singleton]; exact hm
 have hchg:∀(w4:World) (vm2:Value) (D2:Nat→Prop),FM w0 base B Bd Bf D0 g i at_ n (t.took g ks) vb vm2 D2 w4→(∀j,Foot Bf vb vm2 D2 j→Foot Bf vb vm D j∨w.heap.size≤j)→Turn (Foot Bf vb vm D) w w4 →
  Calls Tryz.prog 100 #[pt Bf,.int .i64 (t.newN g ks),.agg #[.int .i64 0,.string x],.slice (some ⟨w4.heap.size,0,none⟩) 1 1] (w4.alloc (.cells #[.int .i64 (t.S.block g ks).2.2.1] 3)) (FDone w0 base B Bd Bf D0 g i at_ n vb (Foot Bf vb vm D) w ((t.took g ks).S.changeC (t.newN g ks) 0 x [(t.S.block g ks).2.2.1]) (.int .i64 ((t.took g ks).S.changeN (t.newN g ks) 0 x [(t.S.block g ks).2.2.1])) (t.fresh g ks x)):=fun w4 vm2 D2 hM4 hft hT=>by
  have hb4:=bl2 (w:=w4) (.cells #[.int .i64 (t.S.block g ks).2.2.1] 3)
  exact(q105z (hM4.below hb4) (hf.took (by omega) g ks).1 ((hf.took (by omega) g ks).last hl1) hl1 (t.newN g ks) 0 x _ [(t.S.block g ks).2.2.1] (ints_new w4 _) (by show(1:Nat)≤_; decide)).mono fun e w6 hd=>hd.ahead hft (hT.trans (Turn.of_below (K:=Foot Bf vb vm D) hb4) (fun _ _ h=>h) (fun _ _ h=>h))
 have hstop:∀(c:Int) w',c≠0→c=t.freshC g ks x→Turn (Foot Bf vb vm D) w w'→q165z w0 base B Bd Bf D0 g i at_ n vb (Foot Bf vb vm D) w (t.freshC g ks x) (t.newN g ks) (t.newA g ks x) (t.fresh g ks x) (stopE c) w':=fun c w' h0 hc hT=>⟨Or.inr ⟨by rw[←hc]; exact h0,by rw[hc]⟩,hT⟩
 have hend:∀(w6:World) (vm2:Value) (D2:Nat→Prop),t.freshC g ks x=0→FM w0 base B Bd Bf D0 g i at_ n (t.fresh g ks x) vb vm2 D2 w6→(∀j,Foot Bf vb vm2 D2 j→Foot Bf vb vm D j∨w.heap.size≤j)→Turn (Foot Bf vb vm D) w w6→∀c2,c2=(t.took g ks).S.changeN (t.newN g ks) 0 x [(t.S.block g ks).2.2.1] →
  q165z w0 base B Bd Bf D0 g i at_ n vb (Foot Bf vb vm D) w (t.freshC g ks x) (t.newN g ks) (t.newA g ks x) (t.fresh g ks x) (.returned (.tuple #[.int .i64 (t.newN g ks),.slice (some ⟨w6.heap.size,0,none⟩) 2 2])) (w6.alloc (.cells #[.int .i64 (t.S.block g ks).2.2.1,.int .i64 c2] 3)):=fun w6 vm2 D2 h0 hM hft hT c2 hc=>by
  subst hc
  have hb6:=bl2 (w:=w6) (.cells #[.int .i64 (t.S.block g ks).2.2.1,.int .i64 ((t.took g ks).S.changeN (t.newN g ks) 0 x [(t.S.block g ks).2.2.1])] 3)
  refine⟨Or.inl ⟨h0,_,rfl,OwnR.block (l:=t.newA g ks x) (heapNew w6 _) rfl rfl hT.size (by show(2:Nat)≤_; decide),vm2,D2,hM.below hb6,hft,fun b hb hF=>?_⟩,hT.trans (Turn.of_below (K:=Foot Bf vb vm D) hb6) (fun _ _ h=>h) (fun _ _ h=>h)⟩
  have hb:w6.heap.size=b:=by simpa [Value.ownBlock] using hb
  have:=hM.footLt b hF
  omega
 have hC1:(t.S.block g ks).2.2.2≠0→(t.S.block g ks).2.2.2=t.freshC g ks x:=fun h=>(q37z h).symm
 have hC2:(t.S.block g ks).2.2.2=0→(t.took g ks).S.changeC (t.newN g ks) 0 x [(t.S.block g ks).2.2.1]=t.freshC g ks x:=fun h=>(q11z h).symm
 have hT0:t.newN g ks=(t.S.block g ks).2.1:=rfl
 rw[←hT0] at hbl
 clear h hf hm hg hv hks hbd hM0 hl1 hT0
 obtain⟨c2,hc2⟩:∃x',(t.took g ks).S.changeN (t.newN g ks) 0 x [(t.S.block g ks).2.2.1]=x':=⟨_,rfl⟩
 obtain⟨k2,hk2⟩:∃x',(t.took g ks).S.changeC (t.newN g ks) 0 x [(t.S.block g ks).2.2.1]=x':=⟨_,rfl⟩
 rw[hk2,hc2] at hchg
 rw[hk2] at hC2
 rw[hc2] at hend
 obtain⟨Q,hQ⟩:=zx (q165z w0 base B Bd Bf D0 g i at_ n vb (Foot Bf vb vm D) w (t.freshC g ks x) (t.newN g ks) (t.newA g ks x) (t.fresh g ks x))
 rw[hQ] at hstop hend ⊢
 obtain⟨C,hC⟩:=zx (t.freshC g ks x)
 rw[hC] at hC1 hC2 hstop hend
 obtain⟨T2,hT2⟩:=zx (t.fresh g ks x)
 rw[hT2] at hchg hend
 obtain⟨N,hN'⟩:=zx (t.newN g ks)
 rw[hN'] at hbl hchg hend
 obtain⟨T1,hT1⟩:=zx (t.took g ks)
 rw[hT1] at hnote hN hchg
 clear hc2 hk2 hQ hC hT2 hN' hT1
 obtain⟨R,hR⟩:=zx (t.S.block g ks)
 rw[hR] at hbl hnote hS3 hN hchg hend hC1 hC2
 clear hR
 obtain⟨S1,N1,c1,k1⟩:=R
 dsimp only at hbl hnote hS3 hN hchg hend hC1 hC2
 obtain⟨ga,gb,gc⟩:=g
 unfold gV at hbl
 unfold pt at hbl hnote hchg ⊢
 dsimp only at hbl hS3 hSd
 have HBL:=zh hbl
 have HNOTE:=zh hnote
 have HS3:=zh hS3
 have HN:=zh hN
 have HCHG:=zh hchg
 have HSTOP:=zh hstop
 have HEND:=zh hend
 have HC1:=zh hC1
 have HC2:=zh hC2
 clear hbl hnote hS3 hN hchg hstop hend hC1 hC2
 go_enter Tryz.func228,Tryz.ntmps228
 go_wp2_with fail
 refine wp_region_held_drew (S:=(fun W=>W.cell? ⟨Bf,0,none⟩=some (.pointer (some ⟨B,0,none⟩))∧W.cell? ⟨Bf,1,none⟩=some (.int .i64 ga)∧W.cell? ⟨Bf,2,none⟩=some (.int .i64 gb)∧W.cell? ⟨Bf,3,none⟩=some (.int .i64 gc))) (by kernel_rfl) (by first | trivial | assumption) (fun hHeld=>?_)
 refine tkH 0 ?_; simp only[Act.put,ps0]
 refine tkH 1 ?_; simp only[Act.put,ps0]
 refine tkH 2 ?_; simp only[Act.put,ps0]
 refine tkH 3 ?_; simp only[Act.put,ps0]
 refine tkH 4 ?_; simp only[Act.put,ps0]
 refine tkH 5 ?_; simp only[Act.put,ps0]
 refine tkH 6 ?_; simp only[Act.put,ps0]
 refine tkH 7 ?_; simp only[Act.put,ps0]
 refine tkH 8 ?_; simp only[Act.put,ps0]
 refine wpAnyH_ready (rs:=[9]) (by kernel_rfl) (by simp) ?_
 refine AllReadyH.cons rfl (fun K hK=>?_) AllReadyH.nil
 try simp only[gg0]
 go_simp
 refine HBL.out.mono ?_
 rintro e w3 ⟨rfl,hs⟩
 have hs3:=HS3.out w3 hs
 have HN3:=zh (HNOTE.out w3 hs)
 have HF3:=zh (fun e w4=>HN.out w3 e w4 hs)
 clear hs
 try simp only
 refine hK.out _ _ ?hkS (fun hHeld=>?_)
 case hkS=>
  exact hs3
 clear hK K
 try simp only[Act.put,ps0]
 refine tkH 10 ?_; simp only[Act.put,ps0]
 refine tkH 11 ?_; simp only[Act.put,ps0]
 refine tkH 12 ?_; simp only[Act.put,ps0]
 refine tkH 13 ?_; simp only[Act.put,ps0]
 refine tkH 14 ?_; simp only[Act.put,ps0]
 refine tkH 15 ?_; simp only[Act.put,ps0]
 refine tkH 16 ?_; simp only[Act.put,ps0]
 refine wpAnyH_done (by kernel_rfl) ?_ _
 clear hHeld hs3
 go_wp2_with fail
 refine HN3.out.mono ?_
 intro e w4 hd
 obtain⟨hd1,hT4⟩:=HF3.out e w4 hd
 clear hd HF3 HN3
 rcases hd1 with ⟨h0,rfl,vm4,D4,hM4,hf4⟩ | ⟨h0,rfl⟩
 ·have HCH:=zh (HCHG.out w4 vm4 D4 hM4 hf4 hT4)
  clear hM4 hf4 hT4
  go_wp2_with fail
  refine HCH.out.mono ?_
  intro e w6 hd
  obtain⟨hd1,hT6⟩:=hd
  rcases hd1 with ⟨h2,rfl,vm6,D6,hM6,hf6⟩ | ⟨h2,rfl⟩
  ·have HE:=zh (HEND.out w6 vm6 D6 ((HC2.out h0).symm.trans h2) hM6 hf6 hT6 _ rfl)
   clear hM6 hf6 hT6 h2 h0
   go_wp2
   first | exact HE.out | (go_ret2; exact HE.out)
  ·have HE:=zh (HSTOP.out _ _ h2 (HC2.out h0) hT6)
   clear hT6 h2 h0
   unfold stopE at HE ⊢
   go_wp2
   exact⟨rfl,HE.out⟩
 ·have HE:=zh (HSTOP.out _ _ h0 (HC1.out h0) hT4)
  clear hT4 h0
  unfold stopE at HE ⊢
  go_wp2
  exact⟨rfl,HE.out⟩
end
