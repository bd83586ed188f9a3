import Derived.Test.YtgofmnhfajmbfaaGreatDoorBmF
import Derived.Test.YtgofmnhfajmbfaaGreatDoorSideFork
set_option maxRecDepth 20000
set_option maxHeartbeats 8000000
namespace Go.Proofs.YtgofmnhfajmbfaaGreatDoor
open Go Go.RowKit Txt Sp
def noK (k:Bool):Int:=if k then 3 else 2
section
variable {g:Sp.Geom} {S:Sp.Side} {F G:File} {t t0 t1:List UInt8} {Y:List Int} {r m:Nat} {k:Bool}
theorem text_stands (hg:g.ok) (h3:3≤g.inodes) (hb:Bm2 g (noK k) (if k then 2 else 3) S F G [1,2,3] Y r) (h0:FText S.read F t):Stands S g (noK k) F∧(∀b∈F.blocks,0≤b)∧(∀b∈F.blocks,b≠0→S.disk.has b):=by
 obtain⟨k1,k2⟩:=kb_in hg h3 k
 obtain⟨a,b,c,d⟩:=h0.alike
 have hz:=h0.size
 have hf:=h0.few
 have hh:∀x∈F.blocks,x≠0→S.disk.has x:=fun x hx hx0=>hb.a.hasB hg (hb.a.own x (q6z.2 ⟨Or.inr hx,hx0⟩))
 refine⟨Bm.stands hb.a hg k1 k2 (a.trans rfl) (c.trans rfl) ?_ ?_ (by omega),fun x hx=>?_,hh⟩
 ·rw[d]; decide
 ·rw[b]; decide
 ·by_cases hx0:x=0
  ·omega
  ·exact(hh x hx hx0).1
end
section
variable {g:Sp.Geom} {S:Sp.Side} {t0 t1:List UInt8} {m:Nat}
theorem texts_last (h:Texts2 g S t0 t1 m) (hm:m≤12):S.deps.last≤900000000∧S.deps.l.length≤400:=by
 obtain⟨F,G,Y,r,hb,h0,h1,hp⟩:=h
 have h2:=hb.a.held.last
 have h3:=hb.a.held.few
 omega
theorem texts_cutC (hg:g.ok) (h3:3≤g.inodes) (h:Texts2 g S t0 t1 m) (hm:m<12) (k:Bool) (z:Nat) (hz:z≤2560):∃S',Texts2 g S' (if k then t0 else cutT t0 z) (if k then cutT t1 z else t1) (m+1)∧S'.disk=S.disk∧∀(W:World) (base B Bd:Nat) (D:Nat→Prop),SideAt W base B Bd S D→(∀j,D j→j<W.heap.size) →
 Calls Tryz.prog 86 #[pt B,gV g,.int .i64 (noK k),.int .i64 (z:Int)] W fun e w'=>∃v,e = .returned (.tuple #[v,.int .i64 0])∧q18z W base B Bd S' D w':=by
 have hl:=(texts_last h (by omega)).1
 obtain⟨F,G,Y,r,hb,h0,h1,hp⟩:=h.pick k
 obtain⟨hc,ht⟩:=texts_cut hg h3 hb h0 h1 hp hm (z:=z) hz
 refine⟨_,ht,cut_disk ..,fun W base B Bd D hs hD=>?_⟩
 obtain⟨q1,q2,q3⟩:=text_stands hg h3 hb h0
 refine(bcut_any hs hD q1 hl (by rw[h0.alike.1]; decide) z hz).mono ?_
 rintro e w' (⟨-,v,rfl,-,hst⟩ | ⟨hne,-⟩)
 ·exact⟨v,rfl,hst⟩
 ·exact absurd hc hne
theorem texts_writeC (hg:g.ok) (h3:3≤g.inodes) (h:Texts2 g S t0 t1 m) (hm:m<12) (k:Bool) (off:Nat) (ho:off≤2400) (x:ByteArray) (hx0:x.data.toList≠[]) (hx:x.data.toList.length≤160) (ks:List Int) (hks:∀q∈ks,0≤q∧q<g.groups) :
 (∀(W:World) (base B Bd:Nat) (D:Nat→Prop) (vk:Value),SideAt W base B Bd S D→(∀j,D j→j<W.heap.size)→(∀W',Turn D W W'→Ints W' vk ks) →
   Calls Tryz.prog 83 #[pt B,gV g,.int .i64 (noK k),.int .i64 (off:Int),.string x,vk] W fun e w'=>e = .returned (.tuple #[.slice none 0 0,.int .i64 109])∧Turn D W w') ∨
 ∃S',Texts2 g S' (if k then t0 else wrT t0 off x.data.toList) (if k then wrT t1 off x.data.toList else t1) (m+1)∧S'.disk=S.disk∧∀(W:World) (base B Bd:Nat) (D:Nat→Prop) (vk:Value),SideAt W base B Bd S D→(∀j,D j→j<W.heap.size)→(∀W',Turn D W W'→Ints W' vk ks) →
  Calls Tryz.prog 83 #[pt B,gV g,.int .i64 (noK k),.int .i64 (off:Int),.string x,vk] W fun e w'=>∃v,e = .returned (.tuple #[v,.int .i64 0])∧q18z W base B Bd S' D w':=by
 have hl:=(texts_last h (by omega)).1
 obtain⟨F,G,Y,r,hb,h0,h1,hp⟩:=h.pick k
 obtain⟨q1,q2,q3⟩:=text_stands hg h3 hb h0
 have hw:=fun(W:World) (base B Bd:Nat) (D:Nat→Prop) (vk:Value) (hs:SideAt W base B Bd S D) (hD:∀j,D j→j<W.heap.size) (hv:∀W',Turn D W W'→Ints W' vk ks)=>
  bwrite_any hs hD q1 hl (by rw[h0.alike.1]; decide) q2 vk ks hv hks off x hx0 (by omega) 4 (by omega) (by decide)
 rcases texts_write hg h3 hb h0 h1 hp hm hks (off:=off) (d:=x.data.toList) ho hx with hc | ⟨hc,ht⟩
 ·refine Or.inl fun W base B Bd D vk hs hD hv=>(hw W base B Bd D vk hs hD hv).mono ?_
  rintro e w' (⟨h0,-⟩ | ⟨-,rfl,hT⟩)
  ·rw[show((⟨S,F,[]⟩:BSt).writeC g (noK k) ks 4 off x.data.toList)=109 from hc] at h0
   exact absurd h0 (by decide)
  ·rw[show((⟨S,F,[]⟩:BSt).writeC g (noK k) ks 4 off x.data.toList)=109 from hc]
   exact⟨rfl,hT⟩
 ·refine Or.inr ⟨_,ht,write_disk ..,fun W base B Bd D vk hs hD hv=>(hw W base B Bd D vk hs hD hv).mono ?_⟩
  rintro e w' (⟨-,v,rfl,-,hst⟩ | ⟨hne,-⟩)
  ·exact⟨v,rfl,hst⟩
  ·exact absurd hc hne
end
section
end
theorem bytesV_app (a b:List UInt8):bytesV a ++ bytesV b=bytesV (a ++ b):=by unfold bytesV; rw[List.map_append]
theorem bytesV_drop (a:List UInt8) (k:Nat):(bytesV a).toArray.toList.drop k=bytesV (a.drop k):=by unfold bytesV; rw[List.map_drop]
def TxtV (w:World) (lo:Nat) (D:Nat→Prop) (v:Value) (t:List UInt8):Prop:=
 (v = .slice none 0 0∧t=[])∨∃b,v = .slice (some ⟨b,0,none⟩) t.length t.length∧w.heap[b]? = some (q29z t 5 (0,0))∧lo≤b∧¬D b
section
variable {w w':World} {lo:Nat} {D D':Nat→Prop} {v:Value} {t:List UInt8}
theorem TxtV.turn {K:Nat→Prop} (h:TxtV w lo D v t) (hT:Turn K w w') (hk:∀b,¬D b→b<w.heap.size→lo≤b→(∃cs,w.heap[b]? = some (.cells cs 5 (0,0)))→¬K b) (hd:∀b,b<w.heap.size→D' b→D b):TxtV w' lo D' v t:=by
 rcases h with h | ⟨b,rfl,h1,h2,h3⟩
 ·exact Or.inl h
 ·have hb:=(Array.getElem?_eq_some_iff.1 h1).1
  exact Or.inr ⟨b,rfl,hT.heap h1 (hk b h3 hb h2 ⟨_,h1⟩),h2,fun hh=>h3 (hd b hb hh)⟩
theorem TxtV.form (h:TxtV w lo D v t):∃ad,v = .slice ad t.length t.length:=by
 rcases h with ⟨rfl,rfl⟩ | ⟨b,rfl,_⟩
 ·exact⟨none,rfl⟩
 ·exact⟨_,rfl⟩
theorem TxtV.copy (h:TxtV w lo D v t) {g n:Nat} (hg:w.heap[g]? = some (q29z (zeros n) 5 (0,0))) (ty:TypeId) (cap:Nat) :
 ∃q,(Builtin.copy_ #[47,47] ty #[.slice (some ⟨g,0,none⟩) n cap,v]).run Tryz.prog w = .ok (goInt (q:Nat)) (w.setRow g (bytesV (cutT t n)).toArray):=by
 have hs:(Tryz.prog.info? 5).map (·.size)=some 1:=by kernel_rfl
 have hzl:(zeros n).length=n:=zeros_length n
 rcases h with ⟨rfl,rfl⟩ | ⟨b,rfl,h1,_,_⟩
 ·refine⟨0,?_⟩
  rw[run_copy_nil Tryz.prog w _ _ ty 5 _ n cap Tryz.underlying47 (by rw[hs]; rfl)]
  have e:cutT [] n=zeros n:=by unfold cutT; simp
  rw[e]
  have e2:w.setRow g (bytesV (zeros n)).toArray=w:=setRow_self w g _ _ _ hg
  rw[e2]
  rfl
 ·have hcs:∀(j:Nat) (x:Value),(bytesV (t.take n))[j]? = some x→w.cell? ((⟨b,0,none⟩:Addr).add j)=some x:=fun j x hx=>by
   have hadd:(⟨b,0,none⟩:Addr).add j=⟨b,j,none⟩:=by unfold Addr.add; split <;> simp_all
   rw[hadd]
   refine cellOf h1 ?_
   unfold bytesV at hx ⊢
   rw[List.getElem?_map,Option.map_eq_some_iff] at hx
   obtain⟨u,hu,rfl⟩:=hx
   have:t[j]? = some u:=by
    rw[List.getElem?_take] at hu
    split at hu
    ·exact hu
    ·cases hu
   simp[this]
  have hl:(bytesV (t.take n)).length=Nat.min t.length n:=by
   rw[q60z,List.length_take]
   exact Nat.min_comm _ _
  have hc:=run_copy_row (P:=Tryz.prog) w 47 47 ty 5 g 0 n cap ⟨b,0,none⟩ t.length t.length (bytesV (zeros n)).toArray 5 (bytesV (t.take n)) Tryz.underlying47 hs hg hl hcs (by
   rw[q60z,List.length_take,List.size_toArray,q60z,hzl]
   omega) bytesV_one
  have hx:(bytesV (zeros n)).toArray.toList.take 0 ++ bytesV (t.take n) ++ (bytesV (zeros n)).toArray.toList.drop (0+(bytesV (t.take n)).length)=bytesV (cutT t n):=by
   rw[List.take_zero,List.nil_append,Nat.zero_add,q60z,bytesV_drop,bytesV_app]
   have hz:(zeros n).drop (t.take n).length=zeros (n-t.length):=by
    have e:(zeros n).drop (t.take n).length=zeros (n-(t.take n).length):=List.drop_replicate
    rw[e,List.length_take]
    exact congrArg zeros (by omega)
   rw[hz]
   rfl
  rw[hx] at hc
  exact⟨_,hc⟩
end
/-- Since w: a side, and two texts beside it. -/
structure TMem (w:World) (B Bd tb:Nat) (S:Sp.Side) (D:Nat→Prop) (t0 t1:List UInt8) (wr:World):Prop where
 side:SideAt wr 0 B Bd S D
 lt:∀j,D j→j<wr.heap.size
 low:∀j,D j→w.heap.size≤j
 tlo:w.heap.size≤tb
 tD:¬D tb
 txt:∃v0 v1,wr.heap[tb]? = some (.cells #[v0,v1] 56 (0,0))∧TxtV wr w.heap.size D v0 t0∧TxtV wr w.heap.size D v1 t1
section
variable {w wr wr':World} {B Bd tb:Nat} {S S':Sp.Side} {D:Nat→Prop} {t0 t1:List UInt8}
theorem TMem.below (h:TMem w B Bd tb S D t0 t1 wr) (hb:Below wr.heap.size wr wr'):TMem w B Bd tb S D t0 t1 wr':=by
 obtain⟨v0,v1,h1,h2,h3⟩:=h.txt
 have hT:Turn (fun _=>False) wr wr':=Turn.of_below hb
 exact⟨h.side.below hb,fun j hj=>Nat.lt_of_lt_of_le (h.lt j hj) hb.size,h.low,h.tlo,h.tD,v0,v1,heapOld hb h1,h2.turn hT (fun _ _ _ _ _ h=>h) (fun _ _ h=>h),h3.turn hT (fun _ _ _ _ _ h=>h) (fun _ _ h=>h)⟩
theorem TMem.tlt (h:TMem w B Bd tb S D t0 t1 wr):tb<wr.heap.size:=by
 obtain⟨v0,v1,h1,_⟩:=h.txt
 exact(Array.getElem?_eq_some_iff.1 h1).1
theorem TMem.sideTo (h:TMem w B Bd tb S D t0 t1 wr) (hs:q18z wr 0 B Bd S' D wr'):TMem w B Bd tb S' (fun j=>D j∨(wr.heap.size≤j∧j<wr'.heap.size)) t0 t1 wr':=by
 obtain⟨hs1,K,hK,hT⟩:=hs
 obtain⟨v0,v1,h1,h2,h3⟩:=h.txt
 have hsz:=hT.size
 have ht:=h.tlt
 have hlo:=h.tlo
 have hk:∀b,¬D b→b<wr.heap.size→w.heap.size≤b→(∃cs,wr.heap[b]? = some (.cells cs 5 (0,0)))→¬K b:=fun b hb _ _ _ hk=>hb (hK b hk)
 have hd:∀b,b<wr.heap.size→(D b∨(wr.heap.size≤b∧b<wr'.heap.size))→D b:=fun b hb hh=>hh.resolve_right (by omega)
 refine⟨hs1,fun j hj=>?_,fun j hj=>?_,h.tlo,fun hh=>?_,v0,v1,hT.heap h1 (fun hk=>h.tD (hK _ hk)),h2.turn hT hk hd,h3.turn hT hk hd⟩
 ·rcases hj with hj | hj
  ·have:=h.lt j hj; omega
  ·exact hj.2
 ·rcases hj with hj | hj
  ·exact h.low j hj
  ·omega
 ·exact h.tD (hd _ ht hh)
theorem TMem.put (h:TMem w B Bd tb S D t0 t1 wr) {b:Nat} {t:List UInt8} (hb:wr.heap[b]? = some (q29z t 5 (0,0))) (hlo:w.heap.size≤b) (hnd:¬D b) (k:Bool) :
 (∃y,wr.cell? ⟨tb,if k then 1 else 0,none⟩=some y)∧wr.frozen? ⟨tb,if k then 1 else 0,none⟩=false ∧
 TMem w B Bd tb S D (if k then t0 else t) (if k then t else t1) (wr.setCell ⟨tb,if k then 1 else 0,none⟩ (.slice (some ⟨b,0,none⟩) t.length t.length))∧Turn (fun j=>j=tb) wr (wr.setCell ⟨tb,if k then 1 else 0,none⟩ (.slice (some ⟨b,0,none⟩) t.length t.length)):=by
 obtain⟨v0,v1,h1,h2,h3⟩:=h.txt
 have hT:Turn (fun j=>j=tb) wr (wr.setCell ⟨tb,if k then 1 else 0,none⟩ (.slice (some ⟨b,0,none⟩) t.length t.length)):=q14z
 have hne:∀b,¬D b→b<wr.heap.size→w.heap.size≤b→(∃cs,wr.heap[b]? = some (.cells cs 5 (0,0)))→¬(b=tb):=fun b _ _ _ ⟨cs,hc⟩ e=>by
  rw[e,h1] at hc
  cases hc
 have hbt:b≠tb:=hne b hnd (Array.getElem?_eq_some_iff.1 hb).1 hlo ⟨_,hb⟩
 have hnew:TxtV (wr.setCell ⟨tb,if k then 1 else 0,none⟩ (.slice (some ⟨b,0,none⟩) t.length t.length)) w.heap.size D (.slice (some ⟨b,0,none⟩) t.length t.length) t:=Or.inr ⟨b,rfl,hT.heap hb hbt,hlo,hnd⟩
 have hsd:=h.side.turn hT (fun j hj e=>h.tD (by have e:j=tb:=e; exact e ▸ hj)) (fun _ _=>Nat.zero_le _)
 have hlt:∀j,D j→j<(wr.setCell ⟨tb,if k then 1 else 0,none⟩ (.slice (some ⟨b,0,none⟩) t.length t.length)).heap.size:=fun j hj=>Nat.lt_of_lt_of_le (h.lt j hj) hT.size
 cases k with
 | false=>exact⟨⟨_,zc 0 h1⟩,q4z h1,⟨hsd,hlt,h.low,h.tlo,h.tD,_,v1,q13z (k:=0) h1 _,hnew,h3.turn hT hne (fun _ _ h=>h)⟩,hT⟩
 | true=>exact⟨⟨_,zc 1 h1⟩,q4z h1,⟨hsd,hlt,h.low,h.tlo,h.tD,v0,_,q13z (k:=1) h1 _,h2.turn hT hne (fun _ _ h=>h),hnew⟩,hT⟩
end
def q56z (w:World) (g:Sp.Geom) (S:Sp.Side) (B Bd tb m:Nat) (D:Nat→Prop) (wr:World) (e:Ending) (w':World):Prop:=
 e = .returned (.bool true)∧∃S' D' t0 t1,TMem w B Bd tb S' D' t0 t1 w'∧Texts2 g S' t0 t1 (m+1)∧(∃K,(∀j,K j→D j∨j=tb)∧Turn K wr w')∧(∀j,D' j→D j∨wr.heap.size≤j)∧S'.disk=S.disk
def doV (k:Bool) (off:Int) (x:ByteArray) (p:Value):Value:=.agg #[.bool k,.int .i64 off,.string x,p]
theorem setRow_turn {w:World} {g:Nat} {cs:Array Value}:Turn (fun j=>j=g) w (w.setRow g cs):=
 ⟨rfl,rfl,rfl,by unfold World.setRow; simp,fun j hj hne=>by unfold World.setRow; simp[Array.getElem?_modify,Ne.symm hne]⟩
theorem done_end {w wr w2 w3 W5:World} {g:Sp.Geom} {B Bd tb m b:Nat} {S S':Sp.Side} {D:Nat→Prop} {t0 t1 T:List UInt8} {k:Bool} (h:TMem w B Bd tb S D t0 t1 wr) (hb2:Below wr.heap.size wr w2) (hs:q18z w2 0 B Bd S' D w3)
 (ht:Texts2 g S' (if k then t0 else T) (if k then T else t1) (m+1)) (hdk:S'.disk=S.disk) (hb5:Below w3.heap.size w3 W5) (hz:W5.heap[b]? = some (q29z T 5 (0,0))) (hbw:w3.heap.size≤b) :
 (∃y,W5.cell? ⟨tb,if k then 1 else 0,none⟩=some y)∧W5.frozen? ⟨tb,if k then 1 else 0,none⟩=false∧q56z w g S B Bd tb m D wr (.returned (.bool true)) (W5.setCell ⟨tb,if k then 1 else 0,none⟩ (.slice (some ⟨b,0,none⟩) T.length T.length)):=by
 have h2:=h.below hb2
 have h3:=h2.sideTo hs
 have h5:=h3.below hb5
 have hs23:w2.heap.size≤w3.heap.size:=hs.2.elim (fun K hK=>hK.2.size)
 have hlo:w.heap.size≤b:=by have:=h.tlt; have:=h.tlo; have:=hb2.size; omega
 obtain⟨q1,q2,q3,q4⟩:=h5.put hz hlo (fun hd=>by
  rcases hd with hd | hd
  ·have:=h2.lt b hd; omega
  ·omega) k
 obtain⟨-,K,hK,hT⟩:=hs
 refine⟨q1,q2,rfl,S',_,_,_,q3,ht,⟨fun j=>D j∨j=tb,fun j hj=>hj,?_⟩,fun j hj=>hj.imp_right (fun hh=>by have:=hb2.size; omega),hdk⟩
 have ta:Turn (fun j=>D j∨j=tb) wr w3:=(Turn.of_below (K:=fun _=>False) hb2).trans hT (fun _ _ h=>h.elim) (fun j _ h=>Or.inl (hK j h))
 have tb':Turn (fun j=>D j∨j=tb) wr W5:=ta.trans (Turn.of_below (K:=fun _=>False) hb5) (fun _ _ h=>h) (fun _ _ h=>h.elim)
 exact tb'.trans q4 (fun _ _ h=>h) (fun _ _ h=>Or.inr h)
theorem TMem.read {w wr:World} {B Bd tb:Nat} {S:Sp.Side} {D:Nat→Prop} {t0 t1:List UInt8} (h:TMem w B Bd tb S D t0 t1 wr) (k:Bool):∃ad:Option Addr,wr.cell? ⟨tb,if k then 1 else 0,none⟩=some (.slice ad (if k then t1 else t0).length (if k then t1 else t0).length)∧TxtV wr w.heap.size D (.slice ad (if k then t1 else t0).length (if k then t1 else t0).length) (if k then t1 else t0):=by
 obtain⟨v0,v1,h1,h2,h3⟩:=h.txt
 cases k with
 | false=>
   obtain⟨ad,e⟩:=h2.form
   subst e
   exact⟨ad,zc 0 h1,h2⟩
 | true=>
   obtain⟨ad,e⟩:=h3.form
   subst e
   exact⟨ad,zc 1 h1,h3⟩
section
theorem doneCut_any {w wr:World} {g:Sp.Geom} {B Bd tb m:Nat} {S:Sp.Side} {D:Nat→Prop} {t0 t1:List UInt8} (hg:g.ok) (h3:3≤g.inodes) (h:TMem w B Bd tb S D t0 t1 wr) (ht:Texts2 g S t0 t1 m) (hm:m<12) (k:Bool) (off:Int) (p:Value) :
 Calls Tryz.prog 23 #[.pointer (some ⟨tb,0,none⟩),pt B,gV g,doV k off ⟨#[]⟩ p] wr (q56z w g S B Bd tb m D wr):=by
 have ham:=fun W:World=>q147z W off 2400 (by decide) (by decide)
 obtain⟨ha0,ha1⟩:=amongJ_bd off 2400 (by decide)
 obtain⟨z,hz⟩:∃z:Nat,q94z off 2400=(z:Int):=⟨(q94z off 2400).toNat,by omega⟩
 rw[hz] at ham ha0 ha1
 simp only[show((2400:Nat):Int)=2400 from rfl] at ham
 have hz2:z≤2400:=by omega
 obtain⟨S',ht',hdk,hcut⟩:=texts_cutC hg h3 ht hm k z (by omega)
 have hll:=(texts_last ht (by omega)).2
 obtain⟨ga,gb,gc⟩:=g
 obtain⟨W0,hW0⟩:=zx ((wr.alloc (.cells #[.int .i64 ga,.int .i64 gb,.int .i64 gc] 23)).alloc (.cells #[.bool k,.int .i64 off,.string ⟨#[]⟩,p] 60))
 have hb0:Below wr.heap.size wr W0:=by rw[←hW0]; exact bl1 (bl2 _) _
 have hgb:W0.heap[wr.heap.size]? = some (.cells #[.int .i64 ga,.int .i64 gb,.int .i64 gc] 23 (0,0)):=by
  rw[←hW0]
  exact heapOld (bl2 _) (heapNew wr _)
 have hxb:W0.heap[wr.heap.size+1]? = some (.cells #[.bool k,.int .i64 off,.string ⟨#[]⟩,p] 60 (0,0)):=by
  have:=heapNew (wr.alloc (.cells #[.int .i64 ga,.int .i64 gb,.int .i64 gc] 23)) (.cells #[.bool k,.int .i64 off,.string ⟨#[]⟩,p] 60)
  rw[hW0] at this
  simpa using this
 have h0:=h.below hb0
 have hfk:=softFork_any h0.side (by omega)
 have HB0:=zh hb0
 have HG:Hid (∀W,Below W0.heap.size W0 W→W.cell? ⟨wr.heap.size,0,none⟩=some (.int .i64 ga)∧W.cell? ⟨wr.heap.size,1,none⟩=some (.int .i64 gb)∧W.cell? ⟨wr.heap.size,2,none⟩=some (.int .i64 gc)):=fun W hW=>
  have hh:=heapOld hW hgb
  ⟨zc 0 hh,zc 1 hh,zc 2 hh⟩
 have x0:W0.cell? ⟨wr.heap.size+1,0,none⟩=some (.bool k):=zc 0 hxb
 have x1:W0.cell? ⟨wr.heap.size+1,1,none⟩=some (.int .i64 off):=zc 1 hxb
 have x2:W0.cell? ⟨wr.heap.size+1,2,none⟩=some (.string ⟨#[]⟩):=zc 2 hxb
 have hcutF:=fun(W:World) (B':Nat) (D':Nat→Prop) (hs:SideAt W W0.heap.size B' Bd S D') (hl:∀j,D' j→W0.heap.size≤j∧j<W.heap.size) (hb:Below W0.heap.size W0 W)=>
  (hcut W W0.heap.size B' Bd D' hs (fun j hj=>(hl j hj).2)).mono (fun e w' hp=>(by
    obtain⟨v,he,hs2,K,hK,hT⟩:=hp
    exact⟨v,he,hb.trans (hT.below (fun j hj=>(hl j (hK j hj)).1) hb.size)⟩:∃v,e = .returned (.tuple #[v,.int .i64 0])∧Below W0.heap.size W0 w'))
 have hcutS:=fun(W:World) (hb:Below W0.heap.size W0 W)=>hcut W 0 B Bd D (h0.below hb).side (h0.below hb).lt
 obtain⟨Tk,hTk⟩:=zx ((if k then t1 else t0))
 have ht2:Texts2 ⟨ga,gb,gc⟩ S' (if k then t0 else cutT Tk z) (if k then cutT Tk z else t1) (m+1):=by
  rw[←hTk]
  cases k with
  | false=>exact ht'
  | true=>exact ht'
 have HEnd:Hid (∀w2 w3,Below W0.heap.size W0 w2→q18z w2 0 B Bd S' D w3→∃W4 W5 ad q,(Instr.makeSlice 47 (.int .i64 (z:Int)) (.int .i64 (z:Int))).run Tryz.prog w3 = .ok (.slice (some ⟨w3.heap.size,0,none⟩) z z) W4 ∧
  W4.cell? ⟨tb,if k then 1 else 0,none⟩=some (.slice ad Tk.length Tk.length)∧(Builtin.copy_ #[47,47] 3 #[.slice (some ⟨w3.heap.size,0,none⟩) z z,.slice ad Tk.length Tk.length]).run Tryz.prog W4 = .ok (goInt (q:Nat)) W5 ∧
  (∃y,W5.cell? ⟨tb,if k then 1 else 0,none⟩=some y)∧W5.frozen? ⟨tb,if k then 1 else 0,none⟩=false∧q56z w ⟨ga,gb,gc⟩ S B Bd tb m D wr (.returned (.bool true)) (W5.setCell ⟨tb,if k then 1 else 0,none⟩ (.slice (some ⟨w3.heap.size,0,none⟩) z z))):=by
  intro w2 w3 hb hs
  have hbr:=blN hb0 hb
  obtain⟨ia,ib,ic,id,ie⟩:=info_parts infoU8
  have hmk:=run_make_bytes (P:=Tryz.prog) w3 Tryz.underlying47 ib ic id ie z (by omega)
  have h4:=((h.below hbr).sideTo hs).below (bl2 (q29z (zeros z) 5 (0,0)))
  obtain⟨ad,hc,htx⟩:=h4.read k
  rw[hTk] at hc htx
  obtain⟨q,hcp⟩:=htx.copy (heapNew w3 _) 3 z
  have hT5:Turn (fun j=>j=w3.heap.size) (w3.alloc (q29z (zeros z) 5 (0,0))) ((w3.alloc (q29z (zeros z) 5 (0,0))).setRow w3.heap.size (bytesV (cutT Tk z)).toArray):=setRow_turn
  have hb5:Below w3.heap.size w3 ((w3.alloc (q29z (zeros z) 5 (0,0))).setRow w3.heap.size (bytesV (cutT Tk z)).toArray):=(bl2 _).trans (hT5.below (fun j e=>Nat.le_of_eq (by have e:j=w3.heap.size:=e; exact e.symm)) (by simp))
  have hz5:((w3.alloc (q29z (zeros z) 5 (0,0))).setRow w3.heap.size (bytesV (cutT Tk z)).toArray).heap[w3.heap.size]? = some (q29z (cutT Tk z) 5 (0,0)):=setRow_bytes (heapNew w3 _) _
  have hend:=done_end h hbr hs ht2 hdk hb5 hz5 (Nat.le_refl _)
  rw[q129z] at hend
  exact⟨_,_,ad,q,hmk,hc,hcp,hend⟩
 obtain⟨dp,hdp⟩:=zx (q56z w ⟨ga,gb,gc⟩ S B Bd tb m D wr)
 rw[hdp] at HEnd ⊢
 unfold gV at hcutF hcutS ⊢
 unfold pt doV at *
 dsimp only at hcutF hcutS
 have HAM:=zh ham
 have HFK:=zh hfk
 have HCUTF:=zh hcutF
 have HCUTS:=zh hcutS
 clear ham hfk hcutF hcutS
 clear h hg h3 ht hm ht' hdk hcut hll hb0 hgb hxb h0 ha0 ha1 hz hTk ht2 hdp
 have k0:=(HG.out W0 (Below.refl _ _))
 cases k with
 | false=>
   simp only[noK,Bool.false_eq_true,if_false] at HEnd HCUTF HCUTS
   go_enter Tryz.func23,Tryz.ntmps23
   go_wp2_with fail
   refine(HAM.out _).mono ?_
   rintro e w1 ⟨rfl,hw1⟩
   replace hw1:=hw1.symm
   subst hw1
   go_wp2_with fail
   clear x0 x1 x2 hW0
   refine HFK.out.mono ?_
   rintro e w2 ⟨B',D',rfl,hs2,hb2,hl2⟩
   have hcf:=HCUTF.out w2 B' D' hs2 hl2 hb2
   obtain⟨z0,z1,z2⟩:=HG.out w2 hb2
   have HCF:=zh hcf
   clear hcf hs2 hb2 hl2 HCUTF HFK
   go_wp2_with fail
   clear z0 z1 z2
   refine HCF.out.mono ?_
   rintro e w3 ⟨v3,rfl,hb3⟩
   obtain⟨z0,z1,z2⟩:=HG.out w3 hb3
   have HCS:=zh (HCUTS.out w3 hb3)
   have HB3:=zh hb3
   clear hb3 HCF HCUTS
   go_wp2_with fail
   clear z0 z1 z2
   refine HCS.out.mono ?_
   rintro e w4 ⟨v4,rfl,hs4⟩
   obtain⟨W4,W5,ad,q,hmk,hc,hcp,⟨y,hy⟩,hfz,hfin⟩:=HEnd.out w3 w4 HB3.out hs4
   have HFin:=zh hfin
   clear hs4 hfin HCS HEnd HB3 HG HAM HB0
   go_wp2_with fail
   exact HFin.out
 | true=>
   simp only[noK,if_true] at HEnd HCUTF HCUTS
   go_enter Tryz.func23,Tryz.ntmps23
   go_wp2_with fail
   refine(HAM.out _).mono ?_
   rintro e w1 ⟨rfl,hw1⟩
   replace hw1:=hw1.symm
   subst hw1
   go_wp2_with fail
   clear x0 x1 x2 hW0
   refine HFK.out.mono ?_
   rintro e w2 ⟨B',D',rfl,hs2,hb2,hl2⟩
   have hcf:=HCUTF.out w2 B' D' hs2 hl2 hb2
   obtain⟨z0,z1,z2⟩:=HG.out w2 hb2
   have HCF:=zh hcf
   clear hcf hs2 hb2 hl2 HCUTF HFK
   go_wp2_with fail
   clear z0 z1 z2
   refine HCF.out.mono ?_
   rintro e w3 ⟨v3,rfl,hb3⟩
   obtain⟨z0,z1,z2⟩:=HG.out w3 hb3
   have HCS:=zh (HCUTS.out w3 hb3)
   have HB3:=zh hb3
   clear hb3 HCF HCUTS
   go_wp2_with fail
   clear z0 z1 z2
   refine HCS.out.mono ?_
   rintro e w4 ⟨v4,rfl,hs4⟩
   obtain⟨W4,W5,ad,q,hmk,hc,hcp,⟨y,hy⟩,hfz,hfin⟩:=HEnd.out w3 w4 HB3.out hs4
   have HFin:=zh hfin
   clear hs4 hfin HCS HEnd HB3 HG HAM HB0
   go_wp2_with fail
   exact HFin.out
end
def grpL (n:Nat):List Int:=(List.range n).map fun(k:Nat)=>(k:Int)
theorem grpL_snoc (n:Nat):grpL (n+1)=grpL n ++ [(n:Int)]:=by unfold grpL; rw[List.range_succ,List.map_append]; rfl
theorem grpL_length (n:Nat):(grpL n).length=n:=by unfold grpL; simp
theorem grpL_mem {n:Nat} {q:Int} (h:q∈grpL n):0≤q∧q<(n:Int):=by
 obtain⟨k,hk,rfl⟩:=List.mem_map.1 h
 have:=List.mem_range.1 hk
 omega
section
theorem groups16_any (w:World) {g:Sp.Geom} (n:Nat) (hn:g.groups=(n:Int)) (hn1:n≤1000) :
 Calls Tryz.prog 31 #[gV g] w fun e w'=>∃v,e = .returned v∧OwnR 3 1 intC w.heap.size w' v (grpL n)∧Below w.heap.size w w':=by
 obtain⟨ga,gb,gc⟩:=g
 obtain rfl:ga=(n:Int):=hn
 unfold gV
 obtain⟨W0,hW0⟩:=zx (w.alloc (.cells #[.int .i64 (n:Int),.int .i64 gb,.int .i64 gc] 23))
 have hb0:Below w.heap.size w W0:=by rw[←hW0]; exact bl2 _
 have hg0:W0.heap[w.heap.size]? = some (.cells #[.int .i64 (n:Int),.int .i64 gb,.int .i64 gc] 23 (0,0)):=by rw[←hW0]; exact heapNew w _
 have z0:W0.cell? ⟨w.heap.size,0,none⟩=some (.int .i64 (n:Int)):=zc 0 hg0
 have HB0:=zh hb0
 clear hb0 hg0
 go_enter Tryz.func31,Tryz.ntmps31
 go_wp2
 clear z0 hW0
 go_loopw [3,7] (fun out q wr=>∃k:Nat,k≤n∧q = .int .i64 (k:Int)∧Hid (OwnR 3 1 intC w.heap.size wr out (grpL k))∧Hid (Below w.heap.size w wr)) (fun _ q _=>n-(intOf q).toNat)
 case atStart=>exact⟨0,Nat.zero_le _,rfl,OwnR.void _ _,HB0⟩
 case round=>
  obtain⟨k,hk,rfl,HO,HB⟩:=hrel
  by_cases hlt:k<n
  ·have q1:decide ((k:Int)<(n:Int))=true:=decide_eq_true (by omega)
   have hll:(grpL k).length≤1024:=by rw[grpL_length]; omega
   go_upto_region 5 with fail
   obtain⟨ia6,ib6,ic6,id6,ie6⟩:=info_parts q81z
   have hrow6:=HO.out
   unfold OwnR at hrow6
   have HRow6:=zh hrow6
   clear hrow6
   have HIb6:=zh ib6
   have HIc6:=zh ic6
   have HId6:=zh id6
   have HIe6:=zh ie6
   clear ib6 ic6 id6 ie6
   go_wp2_with (at_builtin; refine wpList_append_lies _ rfl _ _ _ rfl w.heap.size 3 ia6 _ 1 8 Tryz.underlying58 HIb6.out HIc6.out HId6.out HIe6.out rfl (by decide) _ _ _ rfl (HRow6.out.alloc _) ⟨wr.heap.size,0,none⟩ 1 1 [.int .i64 (k:Int)] rfl rfl (World.news_of_block (cs:=#[.int .i64 (k:Int)]) (t:=3) (fr:=(0,0)) (heapNew wr _)) (by simp[Value.oneCell']) (by omega) ?c1 ?c2 ?c3 (wr.heap.size+1) (by simp) ?_)
   case c1=>unfold maxLen; omega
   case c2=>omega
   case c3=>have:=HB.out.size; first | (simp; done) | (simp; omega)
   intro g6 cap6 w6 hown6 hgrow6 hat6 hlt6
   have HO6:=zh (OwnR.snoc (f:=intC) (x:=(k:Int)) hown6 rfl rfl)
   have HB6:Hid (Below w.heap.size _ w6):=Below.grown (bl1 HB.out _) hgrow6 (bl1 HB.out _).size (fun q hq=>(HRow6.out.lt q hq).1)
   clear hown6 hgrow6 hat6 hlt6 HRow6
   go_wp2
   go_roundw
   case rel=>exact⟨k+1,by omega,by go_num,by rw[grpL_snoc]; exact HO6,HB6⟩
   case measure=>simp[intOf]; omega
  ·obtain rfl:k=n:=by omega
   have q1:decide ((k:Int)<(k:Int))=false:=decide_eq_false (by omega)
   go_wp2
   go_ret
   exact⟨_,rfl,HO.out,HB.out⟩
end
