/-
 SpH: SpBmCode,SpBmRun,SpBmWipe,SpBmSame.
-/
import Derived.Test.YtgofmnhfajmbfaaGreatDoorSpG
namespace Go.Proofs.YtgofmnhfajmbfaaGreatDoor.Sp
open Go Txt
def One (S S':Side):Prop:=S' = S∨∃i off x ahead,S' = S.change i off x ahead
theorem One.ok {S S':Side} (h:One S S') (hS:S.Ok) (hl:S.deps.last<1000000000):S'.Ok∧S.deps.last≤S'.deps.last∧S'.deps.last≤S.deps.last+1:=by
 rcases h with rfl | ⟨i,off,x,ahead,rfl⟩
 ·exact⟨hS,Nat.le_refl _,Nat.le_succ _⟩
 ·by_cases h0:S.changeC i off x ahead=0
  ·have:=(Side.change_last h0).1
   exact⟨Side.change_ok hS hl,by omega,by omega⟩
  ·have e:S.change i off x ahead=S:=if_neg h0
   rw[e]
   exact⟨hS,Nat.le_refl _,Nat.le_succ _⟩
theorem takeL_one (S:Side) (g:Geom) (b:Bool):∀ks:List Int,One S (S.takeL g b ks).1
 | []=>Or.inl rfl
 | k :: r=>by
   unfold Side.takeL
   split
   ·exact Or.inl rfl
   ·split
    ·exact takeL_one S g b r
    ·exact Or.inr ⟨_,_,_,_,rfl⟩
theorem take_one (S:Side) (g:Geom) (b:Bool) (ks:List Int):One S (S.take g b ks).1:=by
 unfold Side.take
 split
 ·exact takeL_one S g b ks
 ·exact Or.inl rfl
theorem block_one (S:Side) (g:Geom) (ks:List Int):One S (S.block g ks).1:=by
 unfold Side.block
 have h:=take_one S g true ks
 split <;> exact h
theorem give_one (S:Side) (g:Geom) (b:Bool) (k p:Int) (ahead:List Int):One S (S.give g b k p ahead).1:=by
 unfold Side.give
 split
 ·exact Or.inl rfl
 ·split
  ·exact Or.inr ⟨_,_,_,_,rfl⟩
  ·exact Or.inl rfl
theorem freeBlock_one (S:Side) (g:Geom) (n:Int) (ahead:List Int):One S (S.freeBlock g n ahead).1:=by
 unfold Side.freeBlock
 split
 ·exact give_one S g true _ _ ahead
 ·exact Or.inl rfl
theorem change_one (S:Side) (i off:Int) (x:ByteArray) (ahead:List Int):One S (S.change i off x ahead):=Or.inr ⟨_,_,_,_,rfl⟩
def thenC (a b:Int):Int:=if a=0 then b else a
theorem q11z {a b:Int} (h:a=0):thenC a b=b:=if_pos h
theorem q37z {a b:Int} (h:a≠0):thenC a b=a:=if_neg h
section
variable (t:BSt) (g:Geom) (i:Int) (ks:List Int)
def BSt.freshC (x:ByteArray):Int:=thenC (t.S.block g ks).2.2.2 ((t.took g ks).S.changeC (t.newN g ks) 0 x [(t.S.block g ks).2.2.1])
def BSt.nameC (q:Nat) (b:Int) (ahead:List Int):Int:=t.S.changeC (q7z g i t.F q) (q9z q) (putB 2 b) ahead
def BSt.moreC (m:Int) (ahead:List Int):Int:=t.S.changeC (q1z g i) 24 (putB 2 m) ahead
def BSt.listedC (q:Nat):Int:=if 8≤q∧t.F.more=0 then thenC (t.freshC g ks blank) ((t.fresh g ks blank).moreC g i (t.newN g ks) (t.newA g ks blank)) else 0
def BSt.namedC (q off:Nat) (x:ByteArray):Int:=thenC (t.freshC g ks (allB off x)) ((t.fresh g ks (allB off x)).nameC g i q (t.newN g ks) (t.newA g ks (allB off x)))
def BSt.putC (q off:Nat) (x:ByteArray):Int:=
 if t.F.blocks.getD q 0≠0 then t.S.changeC (t.F.blocks.getD q 0) off x [] else thenC (t.listedC g i ks q) ((t.listed g i ks q).namedC g i ks q off x)
def BSt.sizedC (z:Int) (ahead:List Int):Int:=t.S.changeC (q1z g i) 2 (putB 2 z) ahead
end
def BSt.putsC (g:Geom) (i:Int) (ks:List Int):Nat→BSt→Nat→List UInt8→Int
 | 0,_,_,_=>0
 | f+1,t,at_,d=>if d=[] then 0 else thenC (t.putC g i ks (at_ / 64) (at_ % 64) (ofL (d.take (64-at_ % 64))))
    (BSt.putsC g i ks f (t.put g i ks (at_ / 64) (at_ % 64) (ofL (d.take (64-at_ % 64)))) (at_+min d.length (64-at_ % 64)) (d.drop (64-at_ % 64)))
def BSt.writeC (t:BSt) (g:Geom) (i:Int) (ks:List Int) (f off:Nat) (d:List UInt8):Int:=
 thenC (BSt.putsC g i ks f t off d) (if t.F.size<((off+d.length:Nat):Int) then(BSt.puts g i ks f t off d).sizedC g i ((off+d.length:Nat):Int) (BSt.puts g i ks f t off d).made else 0)
section
variable (t:BSt) (g:Geom) (i first:Int)
def BSt.goneC (b:Int) (ahead:List Int):Int:=(t.S.freeBlock g b ahead).2.2
def BSt.wipeC (q:Nat):Int:=
 if t.F.blocks.getD q 0≠0 then thenC (t.nameC g i q 0 [first]) ((t.name g i q 0 [first]).goneC g (t.F.blocks.getD q 0) [t.S.changeN (q7z g i t.F q) (q9z q) (putB 2 0) [first]]) else 0
def BSt.unlistC:Int:=
 if t.F.more≠0∧t.F.blocks.drop 8=List.replicate 32 0 then thenC (t.moreC g i 0 [first]) ((t.more g i 0 [first]).goneC g t.F.more [t.S.changeN (q1z g i) 24 (putB 2 0) [first]]) else 0
def BSt.restC (z:Nat):Int:=if z % 64≠0∧t.F.blocks.getD (z / 64) 0≠0 then t.S.changeC (t.F.blocks.getD (z / 64) 0) ((z % 64:Nat):Int) (ofL (zeros (64-z % 64))) [first] else 0
end
def BSt.wipesC (g:Geom) (i:Int) (first:Int):List Nat→BSt→Int
 | [],_=>0
 | q :: r,t=>thenC (t.wipeC g i first q) (BSt.wipesC g i first r (t.wipe g i first q))
def BSt.shrunkC (t:BSt) (g:Geom) (i:Int) (first:Int) (z:Nat):Int:=
 thenC (t.restC first z) (thenC (BSt.wipesC g i first (List.range' (upB z) (40-upB z)) (t.rest first z)) ((BSt.wipes g i first (List.range' (upB z) (40-upB z)) (t.rest first z)).unlistC g i first))
def BSt.cutC (t:BSt) (g:Geom) (i:Int) (z:Nat):Int:=
 if(z:Int)=t.F.size then 0 else thenC (t.sizedC g i z []) (if(z:Int)<t.F.size then(t.sized g i z []).shrunkC g i ((t.S.deps.last:Int)+1) z else 0)
section
variable {g:Geom} {i:Int} {X Y:List Int} {r:Nat} {t:BSt}
theorem Bm.freshC (h:Bm g i t.S t.F X Y r) (hg:g.ok) (hr:r+1<1024) {ks:List Int} (hk:∀k∈ks,0≤k∧k<g.groups) (hroom:∃k∈ks,∃p:Nat,(p:Int)<g.blocks∧q2z g k p∉Y) {x:ByteArray} (hx:x.size=64):t.freshC g ks x=0:=by
 obtain⟨N,S1,e1,k1,l1,n1,n0,c1,cn1,b1,i1,r1,l2⟩:=h.fresh hg hr hk hroom hx
 unfold BSt.freshC BSt.took BSt.newN
 rw[e1]
 dsimp only
 rw[q11z rfl,c1]
theorem bm_listC (h:Bm g i t.S t.F X Y r) (hg:g.ok) (h1:1≤i) (h2:i≤g.groups*g.inodes) (hr:r+4<1024) {ks:List Int} (hk:∀k∈ks,0≤k∧k<g.groups) (hd:ks.Nodup) (hroom:Y.length<ks.length*g.blocks.toNat) (q:Nat):t.listedC g i ks q=0:=by
 unfold BSt.listedC
 split
 ·rename_i hq
  have hrm:=q144z h.held.tb (q48z hg) hk hd hroom
  have hz:(blank:ByteArray).size=64:=by unfold blank; rw[Lib.size_eq,q8z,zeros_length]
  rw[q11z (h.freshC hg (by omega) hk hrm hz)]
  obtain⟨N,S1,e1,k1,l1,n1,n0,c1,cn1,b1,i1,r1,l2⟩:=h.fresh hg (by omega) hk hrm hz
  have hnb:N∉t.F.blocks:=fun hm=>n1 (h.own N (q6z.2 ⟨Or.inr hm,n0⟩))
  have hset:=b1.setMore hg h1 h2 (by omega) (m:=N) (fun e=>absurd e n0) (fun _=>⟨List.mem_append_right _ (List.mem_singleton.2 rfl),hnb,by rw[r1,h.file.none hq.2,q130z]⟩) (ahead:=[(t.S.deps.last:Int)+1,(t.S.deps.last:Int)+2]) (fun n hn=>by
   rw[l2]
   simp only[List.mem_cons,List.not_mem_nil,or_false] at hn
   omega)
  have eS:(t.fresh g ks blank).S=S1.change N 0 blank [(t.S.deps.last:Int)+1]:=by unfold BSt.fresh BSt.chg BSt.newN BSt.took; dsimp only; rw[e1]
  have eN:t.newN g ks=N:=by unfold BSt.newN; rw[e1]
  have eA:t.newA g ks blank=[(t.S.deps.last:Int)+1,(t.S.deps.last:Int)+2]:=by unfold BSt.newA BSt.newN BSt.took; dsimp only; rw[e1]; dsimp only; rw[cn1]
  unfold BSt.moreC
  rw[eS,eN,eA]
  exact hset.1
 ·rfl
theorem bm_namedC (h:Bm g i t.S t.F X Y r) (hg:g.ok) (h1:1≤i) (h2:i≤g.groups*g.inodes) (hr:r+4<1024) {ks:List Int} (hk:∀k∈ks,0≤k∧k<g.groups) (hd:ks.Nodup) (hroom:Y.length<ks.length*g.blocks.toNat) {q off:Nat} (hq:q<40) (hmo:8≤q→t.F.more≠0) {x:ByteArray} (hx:off+x.size≤64):t.namedC g i ks q off x=0:=by
 have hrm:=q144z h.held.tb (q48z hg) hk hd hroom
 unfold BSt.namedC
 rw[q11z (h.freshC hg (by omega) hk hrm (q95z hx))]
 obtain⟨N,S1,e1,k1,l1,n1,n0,c1,cn1,b1,i1,r1,l2⟩:=h.fresh hg (by omega) hk hrm (q95z hx)
 have hp:=b1.point hg h1 h2 (by omega) hq (b:=N) (Or.inr ⟨List.mem_append_right _ (List.mem_singleton.2 rfl),fun hm=>n1 (h.own N hm)⟩) hmo (ahead:=[(t.S.deps.last:Int)+1,(t.S.deps.last:Int)+2]) (fun n hn=>by
  rw[l2]
  simp only[List.mem_cons,List.not_mem_nil,or_false] at hn
  omega)
 have eS:(t.fresh g ks (allB off x)).S=S1.change N 0 (allB off x) [(t.S.deps.last:Int)+1]:=by unfold BSt.fresh BSt.chg BSt.newN BSt.took; dsimp only; rw[e1]
 have eF:(t.fresh g ks (allB off x)).F=t.F:=rfl
 have eN:t.newN g ks=N:=by unfold BSt.newN; rw[e1]
 have eA:t.newA g ks (allB off x)=[(t.S.deps.last:Int)+1,(t.S.deps.last:Int)+2]:=by unfold BSt.newA BSt.newN BSt.took; dsimp only; rw[e1]; dsimp only; rw[cn1]
 unfold BSt.nameC
 rw[eS,eF,eN,eA]
 exact hp.1
theorem bm_putC (h:Bm g i t.S t.F X Y r) (hg:g.ok) (h1:1≤i) (h2:i≤g.groups*g.inodes) (hr:r+8<1024) {ks:List Int} (hk:∀k∈ks,0≤k∧k<g.groups) (hd:ks.Nodup) (hroom:Y.length+1<ks.length*g.blocks.toNat) {q off:Nat} (hq:q<40) {x:ByteArray} (hx:off+x.size≤64) (hx1:1≤x.size):t.putC g i ks q off x=0:=by
 have hq2:q<t.F.blocks.length:=by rw[h.file.len]; exact hq
 have hgd:t.F.blocks.getD q 0=t.F.blocks[q]:=by rw[List.getD_eq_getElem?_getD,List.getElem?_eq_getElem hq2]; rfl
 unfold BSt.putC
 split
 ·rename_i h0
  have hdt:=h.data hg (by omega) hq (by rw[←hgd]; exact h0) hx hx1 (ahead:=[]) (by simp)
  rw[hgd]
  exact hdt.1
 ·obtain⟨Y1,b1,i1,bl1,m1,y1,s1,_,_⟩:=bm_list h hg h1 h2 (by omega) hk hd (by omega) q
  rw[q11z (bm_listC h hg h1 h2 (by omega) hk hd (by omega) q)]
  exact bm_namedC b1 hg h1 h2 (by omega) hk hd (by omega) hq m1 hx
theorem bm_putsC (hg:g.ok) (h1:1≤i) (h2:i≤g.groups*g.inodes) {ks:List Int} (hk:∀k∈ks,0≤k∧k<g.groups) (hd:ks.Nodup) :
 ∀(f:Nat) (t:BSt) (Y:List Int) (r:Nat) (at_:Nat) (d:List UInt8),Bm g i t.S t.F X Y r→r+6*f+2<1024→Y.length+2*f≤ks.length*g.blocks.toNat→at_+d.length≤2560→BSt.putsC g i ks f t at_ d=0
 | 0,_,_,_,_,_,_,_,_,_=>rfl
 | f+1,t,Y,r,at_,d,h,hr,hroom,hat=>by
   unfold BSt.putsC
   split
   ·rfl
   ·rename_i hd0
    have hlen:0<d.length:=List.length_pos_iff.2 hd0
    have hx:(ofL (d.take (64-at_ % 64))).size=min d.length (64-at_ % 64):=by rw[Lib.size_eq,q8z,List.length_take]; omega
    have hp:=bm_putC h hg h1 h2 (by omega) hk hd (by omega) (q:=at_ / 64) (off:=at_ % 64) (by omega) (x:=ofL (d.take (64-at_ % 64))) (by rw[hx]; omega) (by rw[hx]; omega)
    rw[q11z hp]
    obtain⟨Y',r',e1,e2,b1,i1,s1,p1⟩:=bm_put h hg h1 h2 (by omega) hk hd (by omega) (q:=at_ / 64) (off:=at_ % 64) (by omega) (x:=ofL (d.take (64-at_ % 64))) (by rw[hx]; omega) (by rw[hx]; omega)
    exact bm_putsC hg h1 h2 hk hd f _ Y' r' _ _ b1 (by omega) (by omega) (by rw[List.length_drop]; omega)
theorem bm_writeC (h:Bm g i t.S t.F X Y r) (hm:q15z t) (hg:g.ok) (h1:1≤i) (h2:i≤g.groups*g.inodes) {ks:List Int} (hk:∀k∈ks,0≤k∧k<g.groups) (hd:ks.Nodup) {f off:Nat} {d:List UInt8}
 (hr:r+6*f+2<1024) (hroom:Y.length+2*f≤ks.length*g.blocks.toNat) (hat:off+d.length≤2560) (hf:d=[]∨off % 64+d.length≤64*f):t.writeC g i ks f off d=0:=by
 unfold BSt.writeC
 rw[q11z (bm_putsC hg h1 h2 hk hd f t Y r off d h hr hroom hat)]
 split
 ·obtain⟨Y1,r1,e1,e2,b1,m1,i1,s1,p1⟩:=bm_puts hg h1 h2 hk hd f t Y r off d h hm hr hroom hat hf
  exact(bm_sized b1 m1 hg h1 h2 (by omega) ((off+d.length:Nat):Int) (ahead:=(BSt.puts g i ks f t off d).made) m1).2.2.2.2
 ·rfl
variable {first:Int}
theorem bm_wipeC (h:Bm g i t.S t.F X Y r) (hg:g.ok) (h1:1≤i) (h2:i≤g.groups*g.inodes) (hr:r+2<1024) (hf:1≤first∧first≤(t.S.deps.last:Int)) {q:Nat} (hq:q<40):t.wipeC g i first q=0:=by
 have hq2:q<t.F.blocks.length:=by rw[h.file.len]; exact hq
 have hgd:t.F.blocks.getD q 0=t.F.blocks[q]:=by rw[List.getD_eq_getElem?_getD,List.getElem?_eq_getElem hq2]; rfl
 unfold BSt.wipeC
 split
 ·rename_i h0
  have hb0:t.F.blocks[q]≠0:=by rw[←hgd]; exact h0
  have hmo:8≤q→t.F.more≠0:=fun h8 e=>hb0 (by
   have hz:=h.file.none e
   have:(t.F.blocks.drop 8)[q-8]? = some 0:=by rw[hz,List.getElem?_replicate,if_pos (by omega)]
   rw[List.getElem?_drop,show 8+(q-8)=q by omega,List.getElem?_eq_getElem hq2] at this
   exact Option.some.inj this)
  have hp:=h.point hg h1 h2 (by omega) hq (b:=0) (Or.inl rfl) hmo (ahead:=[first]) (fun n hn=>by rw[List.mem_singleton] at hn; omega)
  have hl:=Side.change_last hp.1
  have hY:t.F.blocks[q]∈Y:=h.own _ (q6z.2 ⟨Or.inr (List.getElem_mem hq2),hb0⟩)
  obtain⟨S',e1,b1,i1,l1⟩:=hp.2.1.free hg (by omega) hY (all_wiped h.file hq hb0) (ahead:=[(t.S.deps.last:Int)+1]) (fun n hn=>by rw[List.mem_singleton] at hn; rw[hl.1]; omega)
  have e0:t.nameC g i q 0 [first]=0:=hp.1
  rw[q11z e0]
  unfold BSt.goneC BSt.name BSt.chg
  dsimp only
  rw[hgd,hl.2,e1]
 ·rfl
theorem bm_wipesC (hg:g.ok) (h1:1≤i) (h2:i≤g.groups*g.inodes):∀(n q:Nat) (t:BSt) (Y:List Int) (r:Nat),q+n≤40→Bm g i t.S t.F X Y r→q15z t→r+2*n<1024→(1≤first∧first≤(t.S.deps.last:Int))→BSt.wipesC g i first (List.range' q n) t=0
 | 0,_,_,_,_,_,_,_,_,_=>rfl
 | n+1,q,t,Y,r,hq,h,hm,hr,hf=>by
   obtain⟨Y1,r1,e1,b1,m1,f1,i1,l1,y1,_⟩:=bm_wipe h hm hg h1 h2 (by omega) hf (q:=q) (by omega)
   rw[List.range'_succ]
   unfold BSt.wipesC
   rw[q11z (bm_wipeC h hg h1 h2 (by omega) hf (by omega))]
   exact bm_wipesC hg h1 h2 n (q+1) _ Y1 r1 (by omega) b1 m1 (by omega) ⟨hf.1,by omega⟩
theorem bm_unlistC (h:Bm g i t.S t.F X Y r) (hg:g.ok) (h1:1≤i) (h2:i≤g.groups*g.inodes) (hr:r+2<1024) (hf:1≤first∧first≤(t.S.deps.last:Int)):t.unlistC g i first=0:=by
 unfold BSt.unlistC
 split
 ·rename_i h0
  have hp:=h.setMore hg h1 h2 (by omega) (m:=0) (fun _=>h0.2) (fun e=>absurd rfl e) (ahead:=[first]) (fun n hn=>by rw[List.mem_singleton] at hn; omega)
  have hl:=Side.change_last hp.1
  have hY:t.F.more∈Y:=h.own _ (q6z.2 ⟨Or.inl rfl,h0.1⟩)
  have hna:t.F.more∉({ t.F with more:=0 }:File).all:=fun hx=>by
   obtain⟨hx,_⟩:=q6z.1 hx
   rcases hx with e | hx
   ·exact h0.1 e
   ·exact h.file.more_apart h0.1 hx
  obtain⟨S',e1,b1,i1,l1⟩:=hp.2.1.free hg (by omega) hY hna (ahead:=[(t.S.deps.last:Int)+1]) (fun n hn=>by rw[List.mem_singleton] at hn; rw[hl.1]; omega)
  have e0:t.moreC g i 0 [first]=0:=hp.1
  rw[q11z e0]
  unfold BSt.goneC BSt.more BSt.chg
  dsimp only
  rw[hl.2,e1]
 ·rfl
theorem bm_restC (h:Bm g i t.S t.F X Y r) (hg:g.ok) (hr:r<1024) (hf:1≤first∧first≤(t.S.deps.last:Int)) {z:Nat} (hz:z≤2560):t.restC first z=0:=by
 unfold BSt.restC
 split
 ·rename_i h0
  have hq:z / 64<40:=by omega
  have hq2:z / 64<t.F.blocks.length:=by rw[h.file.len]; exact hq
  have hgd:t.F.blocks.getD (z / 64) 0=t.F.blocks[z / 64]:=by rw[List.getD_eq_getElem?_getD,List.getElem?_eq_getElem hq2]; rfl
  have hx:(ofL (zeros (64-z % 64))).size=64-z % 64:=by rw[Lib.size_eq,q8z,zeros_length]
  have hdt:=h.data hg hr hq (by rw[←hgd]; exact h0.2) (off:=z % 64) (x:=ofL (zeros (64-z % 64))) (by rw[hx]; omega) (by rw[hx]; omega) (ahead:=[first]) (fun n hn=>by rw[List.mem_singleton] at hn; omega)
  rw[hgd]
  exact hdt.1
 ·rfl
theorem bm_cutC (h:Bm g i t.S t.F X Y r) (hm:q15z t) (hg:g.ok) (h1:1≤i) (h2:i≤g.groups*g.inodes) (hr:r+92<1024) {z:Nat} (hz:z≤2560):t.cutC g i z=0:=by
 unfold BSt.cutC
 split
 ·rfl
 ·obtain⟨b1,m1,i1,l1,c1⟩:=bm_sized h hm hg h1 h2 (by omega) (z:Int) (ahead:=[]) (by simp)
  have e0:t.sizedC g i z []=0:=c1
  rw[q11z e0]
  split
  ·have hf:1≤(t.S.deps.last:Int)+1∧(t.S.deps.last:Int)+1≤((t.sized g i z []).S.deps.last:Int):=by rw[l1]; omega
   have hu:upB z≤40:=by unfold upB; split <;> omega
   obtain⟨r2,er2,b2,m2,f2,l2,i2⟩:=bm_rest b1 m1 hg (by omega) hf hz
   obtain⟨Y3,r3,er3,b3,m3,s3,mo3,i3,l3,y3,g3⟩:=bm_wipes (first:=(t.S.deps.last:Int)+1) hg h1 h2 (40-upB z) (upB z) _ Y r2 (by omega) b2 m2 (by omega) ⟨hf.1,by omega⟩
   unfold BSt.shrunkC
   rw[q11z (bm_restC b1 hg (by omega) hf hz),q11z (bm_wipesC hg h1 h2 (40-upB z) (upB z) _ Y r2 (by omega) b2 m2 (by omega) ⟨hf.1,by omega⟩)]
   exact bm_unlistC b3 hg h1 h2 (by omega) ⟨hf.1,by omega⟩
  ·rfl
end
theorem chg_len (t:BSt) (j off:Int) (x:ByteArray) (ahead:List Int):(t.chg j off x ahead).made.length=t.made.length+1:=by
 show(t.made ++ [_]).length=_
 rw[List.length_append,List.length_singleton]
theorem q87z (t:BSt) (g:Geom) (ks:List Int) (x:ByteArray):(t.fresh g ks x).made.length=t.made.length+2:=by
 show((t.made ++ [_]) ++ [_]).length=_
 simp only[List.length_append,List.length_singleton]
theorem listed_len (t:BSt) (g:Geom) (i:Int) (ks:List Int) (q:Nat):(t.listed g i ks q).made.length≤t.made.length+3:=by
 unfold BSt.listed
 split
 ·show((t.fresh g ks blank).made ++ [_]).length≤_
  rw[List.length_append,q87z,List.length_singleton]
  omega
 ·omega
theorem named_len (t:BSt) (g:Geom) (i:Int) (ks:List Int) (q off:Nat) (x:ByteArray):(t.named g i ks q off x).made.length=t.made.length+3:=by
 show((t.fresh g ks (allB off x)).made ++ [_]).length=_
 rw[List.length_append,q87z,List.length_singleton]
theorem put_len (t:BSt) (g:Geom) (i:Int) (ks:List Int) (q off:Nat) (x:ByteArray):(t.put g i ks q off x).made.length≤t.made.length+6:=by
 unfold BSt.put
 split
 ·rw[chg_len]; omega
 ·rw[named_len]
  have:=listed_len t g i ks q
  omega
theorem wipe_len (t:BSt) (g:Geom) (i first:Int) (q:Nat):(t.wipe g i first q).made.length≤t.made.length+2:=by
 unfold BSt.wipe
 split
 ·show((t.made ++ [_]) ++ [_]).length≤_
  simp only[List.length_append,List.length_singleton]
  omega
 ·omega
def BlkOk (t:BSt):Prop:=t.F.blocks.length=40∧∀b∈t.F.blocks,0≤b
theorem BlkOk.getD {t:BSt} (h:BlkOk t) (q:Nat):0≤t.F.blocks.getD q 0:=by
 rw[List.getD_eq_getElem?_getD]
 cases hq:t.F.blocks[q]? with
 | none=>exact Int.le_refl _
 | some b=>exact h.2 b (List.mem_of_getElem? hq)
theorem BlkOk.set {t:BSt} (h:BlkOk t) {q:Nat} {b:Int} (hb:0≤b) {F':File} (hF:F'.blocks=t.F.blocks.set q b) (S':Side) (md:List Int):BlkOk ⟨S',F',md⟩:=by
 refine⟨by show F'.blocks.length=40; rw[hF,List.length_set]; exact h.1,fun x hx=>?_⟩
 have hx:x∈F'.blocks:=hx
 rw[hF] at hx
 rcases List.mem_or_eq_of_mem_set hx with hx | rfl
 ·exact h.2 x hx
 ·exact hb
theorem listed_blocks (t:BSt) (g:Geom) (i:Int) (ks:List Int) (q:Nat):(t.listed g i ks q).F.blocks=t.F.blocks:=by
 unfold BSt.listed
 split <;> rfl
theorem listed_same (t:BSt) (g:Geom) (i:Int) (ks:List Int) (q:Nat):q63z t.F (t.listed g i ks q).F:=by
 unfold BSt.listed
 split <;> exact⟨rfl,rfl,rfl,rfl,rfl⟩
theorem put_same (t:BSt) (g:Geom) (i:Int) (ks:List Int) (q off:Nat) (x:ByteArray):q63z t.F (t.put g i ks q off x).F:=by
 unfold BSt.put
 split
 ·exact⟨rfl,rfl,rfl,rfl,rfl⟩
 ·exact listed_same t g i ks q
theorem thenC_eq {a b:Int} (h:thenC a b=0):a=0∧b=0:=by
 unfold thenC at h
 split at h
 ·exact⟨by assumption,h⟩
 ·exact absurd h (by assumption)
theorem put_blk {t:BSt} {g:Geom} {i:Int} {ks:List Int} {q off:Nat} {x:ByteArray} (h:BlkOk t) (hn:∀t:BSt,∀x,t.freshC g ks x=0→0≤t.newN g ks) (hc:t.putC g i ks q off x=0):BlkOk (t.put g i ks q off x):=by
 unfold BSt.putC at hc
 unfold BSt.put
 split
 ·exact h
 ·rename_i h0
  rw[if_neg h0] at hc
  have hc2:=(thenC_eq hc).2
  unfold BSt.namedC at hc2
  have hN:=hn _ _ (thenC_eq hc2).1
  refine BlkOk.set h (q:=q) hN ?_ _ _
  show(t.listed g i ks q).F.blocks.set q _=_
  rw[listed_blocks]
theorem puts_step {g:Geom} {i:Int} {ks:List Int} {f:Nat} {t:BSt} {a:Nat} {d:List UInt8} (hd:d≠[]) :
 BSt.puts g i ks (f+1) t a d=BSt.puts g i ks f (t.put g i ks (a / 64) (a % 64) (ofL (d.take (64-a % 64)))) (a+min d.length (64-a % 64)) (d.drop (64-a % 64)) ∧
 BSt.putsC g i ks (f+1) t a d=thenC (t.putC g i ks (a / 64) (a % 64) (ofL (d.take (64-a % 64)))) (BSt.putsC g i ks f (t.put g i ks (a / 64) (a % 64) (ofL (d.take (64-a % 64)))) (a+min d.length (64-a % 64)) (d.drop (64-a % 64))):=
 ⟨if_neg hd,if_neg hd⟩
theorem puts_nil (g:Geom) (i:Int) (ks:List Int) (f:Nat) (t:BSt) (a:Nat):BSt.puts g i ks f t a []=t∧BSt.putsC g i ks f t a []=0:=by
 cases f <;> exact⟨rfl,rfl⟩
/-- Where a Write stands: so much is left, from a state on; what it comes to is what it was to come to. -/
structure PutsAt (g:Geom) (i:Int) (ks:List Int) (f0:Nat) (t0:BSt) (off:Nat) (d0:List UInt8) (f:Nat) (t:BSt) (a:Nat) (d:List UInt8):Prop where
 eq:BSt.puts g i ks f0 t0 off d0=BSt.puts g i ks f t a d
 code:BSt.putsC g i ks f0 t0 off d0=BSt.putsC g i ks f t a d
 blk:BlkOk t
 same:q63z t0.F t.F
 at_:off≤a∧d=d0.drop (a-off)∧a+d.length=off+d0.length
 fuel:d=[]∨a % 64+d.length≤64*f
 made:t.made.length+6*f≤t0.made.length+6*f0
section
variable {g:Geom} {i:Int} {ks:List Int} {f0 f:Nat} {t0 t:BSt} {off a:Nat} {d0 d:List UInt8}
theorem PutsAt.start (hb:BlkOk t0) (hf:off % 64+d0.length≤64*f0):PutsAt g i ks f0 t0 off d0 f0 t0 off d0:=
 ⟨rfl,rfl,hb,⟨rfl,rfl,rfl,rfl,rfl⟩,⟨Nat.le_refl _,by rw[Nat.sub_self]; rfl,rfl⟩,Or.inr hf,Nat.le_refl _⟩
theorem PutsAt.next (h:PutsAt g i ks f0 t0 off d0 (f+1) t a d) (hd:d≠[]) (hn:∀t:BSt,∀x,t.freshC g ks x=0→0≤t.newN g ks) (hc:t.putC g i ks (a / 64) (a % 64) (ofL (d.take (64-a % 64)))=0) :
 PutsAt g i ks f0 t0 off d0 f (t.put g i ks (a / 64) (a % 64) (ofL (d.take (64-a % 64)))) (a+min d.length (64-a % 64)) (d.drop (64-a % 64)):=by
 obtain⟨s1,s2⟩:=puts_step (g:=g) (i:=i) (ks:=ks) (f:=f) (t:=t) (a:=a) hd
 have hl:=put_len t g i ks (a / 64) (a % 64) (ofL (d.take (64-a % 64)))
 have hm:=h.made
 have hps:=put_same t g i ks (a / 64) (a % 64) (ofL (d.take (64-a % 64)))
 have hs:=h.same
 obtain⟨a1,a2,a3⟩:=h.at_
 refine⟨h.eq.trans s1,(h.code.trans s2).trans (q11z hc),put_blk h.blk hn hc,⟨hps.1.trans hs.1,hps.2.1.trans hs.2.1,hps.2.2.1.trans hs.2.2.1,hps.2.2.2.1.trans hs.2.2.2.1,hps.2.2.2.2.trans hs.2.2.2.2⟩,⟨by omega,?_,by rw[List.length_drop]; omega⟩,?_,by omega⟩
 ·by_cases hlt:d.length≤64-a % 64
  ·rw[List.drop_of_length_le hlt,Nat.min_eq_left hlt,List.drop_of_length_le (by omega)]
  ·rw[Nat.min_eq_right (by omega),a2,List.drop_drop]
   congr 1
   omega
 ·by_cases hlt:d.length≤64-a % 64
  ·exact Or.inl (List.drop_of_length_le hlt)
  ·refine Or.inr ?_
   rw[List.length_drop,Nat.min_eq_right (by omega)]
   have hf:=h.fuel.resolve_left hd
   have:(a+(64-a % 64)) % 64=0:=by omega
   omega
theorem PutsAt.stop (h:PutsAt g i ks f0 t0 off d0 (f+1) t a d) (hd:d≠[]) (hc:t.putC g i ks (a / 64) (a % 64) (ofL (d.take (64-a % 64)))≠0):BSt.putsC g i ks f0 t0 off d0=t.putC g i ks (a / 64) (a % 64) (ofL (d.take (64-a % 64))):=
 (h.code.trans (puts_step hd).2).trans (q37z hc)
theorem PutsAt.done (h:PutsAt g i ks f0 t0 off d0 f t a []):BSt.puts g i ks f0 t0 off d0=t∧BSt.putsC g i ks f0 t0 off d0=0:=
 ⟨h.eq.trans (puts_nil ..).1,h.code.trans (puts_nil ..).2⟩
theorem PutsAt.some (h:PutsAt g i ks f0 t0 off d0 f t a d) (hd:d≠[]):∃k,f=k+1:=by
 have:=h.fuel.resolve_left hd
 have:=List.length_pos_iff.2 hd
 exact⟨f-1,by omega⟩
end
def BlkBd (t:BSt):Prop:=t.F.blocks.length=40∧∀b∈t.F.blocks,0≤b∧b<65536
theorem BlkBd.ok {t:BSt} (h:BlkBd t):BlkOk t:=⟨h.1,fun b hb=>(h.2 b hb).1⟩
theorem wipe_F (t:BSt) (g:Geom) (i first:Int) (q:Nat):(t.wipe g i first q).F=if t.F.blocks.getD q 0≠0 then { t.F with blocks:=t.F.blocks.set q 0 } else t.F:=by
 unfold BSt.wipe
 split <;> rfl
theorem wipe_bd {t:BSt} (h:BlkBd t) (g:Geom) (i first:Int) (q:Nat):BlkBd (t.wipe g i first q)∧(t.wipe g i first q).F.more=t.F.more:=by
 unfold BlkBd
 rw[wipe_F]
 split
 ·refine⟨⟨by show(t.F.blocks.set q 0).length=40; rw[List.length_set]; exact h.1,fun b hb=>?_⟩,rfl⟩
  rcases List.mem_or_eq_of_mem_set hb with hb | rfl
  ·exact h.2 b hb
  ·omega
 ·exact⟨h,rfl⟩
/-- Where shrink's loop stands. -/
structure WipesAt (g:Geom) (i first:Int) (u:Nat) (t0:BSt) (q:Nat) (t:BSt):Prop where
 le:u≤q∧q≤40
 eq:BSt.wipes g i first (List.range' u (40-u)) t0=BSt.wipes g i first (List.range' q (40-q)) t
 code:BSt.wipesC g i first (List.range' u (40-u)) t0=BSt.wipesC g i first (List.range' q (40-q)) t
 blk:BlkBd t
 more:t.F.more=t0.F.more
 made:t.made.length+2*(40-q)≤t0.made.length+2*(40-u)
section
variable {g:Geom} {i first:Int} {u q:Nat} {t0 t:BSt}
theorem WipesAt.start (hb:BlkBd t0) (hu:u≤40):WipesAt g i first u t0 u t0:=⟨⟨Nat.le_refl _,hu⟩,rfl,rfl,hb,rfl,Nat.le_refl _⟩
theorem wipes_step (hq:q<40) (t:BSt):BSt.wipes g i first (List.range' q (40-q)) t=BSt.wipes g i first (List.range' (q+1) (40-(q+1))) (t.wipe g i first q) ∧
 BSt.wipesC g i first (List.range' q (40-q)) t=thenC (t.wipeC g i first q) (BSt.wipesC g i first (List.range' (q+1) (40-(q+1))) (t.wipe g i first q)):=by
 have e:List.range' q (40-q)=q :: List.range' (q+1) (40-(q+1)):=by rw[show 40-q=(40-(q+1))+1 by omega,List.range'_succ]
 rw[e]
 exact⟨rfl,rfl⟩
theorem WipesAt.next (h:WipesAt g i first u t0 q t) (hq:q<40) (hc:t.wipeC g i first q=0):WipesAt g i first u t0 (q+1) (t.wipe g i first q):=by
 obtain⟨s1,s2⟩:=wipes_step (g:=g) (i:=i) (first:=first) hq t
 have hl:=wipe_len t g i first q
 have hm:=h.made
 have hle:=h.le
 exact⟨⟨by omega,by omega⟩,h.eq.trans s1,(h.code.trans s2).trans (q11z hc),(wipe_bd h.blk g i first q).1,(wipe_bd h.blk g i first q).2.trans h.more,by omega⟩
theorem WipesAt.stop (h:WipesAt g i first u t0 q t) (hq:q<40) (hc:t.wipeC g i first q≠0):BSt.wipesC g i first (List.range' u (40-u)) t0=t.wipeC g i first q:=
 (h.code.trans (wipes_step hq t).2).trans (q37z hc)
theorem WipesAt.done (h:WipesAt g i first u t0 40 t):BSt.wipes g i first (List.range' u (40-u)) t0=t∧BSt.wipesC g i first (List.range' u (40-u)) t0=0:=⟨h.eq,h.code⟩
end
theorem sum_zero:∀{l:List Int},(∀b∈l,0≤b)→(l.sum=0↔l=List.replicate l.length 0)
 | [],_=>⟨fun _=>rfl,fun _=>rfl⟩
 | b :: r,h=>by
   have hb:=h b (List.mem_cons_self ..)
   have hr:∀x∈r,0≤x:=fun x hx=>h x (List.mem_cons_of_mem _ hx)
   have hs:0≤r.sum:=sum_nonneg hr
   rw[List.sum_cons,List.length_cons,List.replicate_succ]
   constructor
   ·intro e
    have e1:b=0:=by omega
    have e2:r.sum=0:=by omega
    rw[e1,←(sum_zero hr).1 e2]
   ·intro e
    injection e with e1 e2
    have:=(sum_zero hr).2 e2
    omega
where
 sum_nonneg:∀{l:List Int},(∀b∈l,0≤b)→0≤l.sum
  | [],_=>Int.le_refl 0
  | b :: r,h=>by
    have:=sum_nonneg (l:=r) (fun x hx=>h x (List.mem_cons_of_mem _ hx))
    have:=h b (List.mem_cons_self ..)
    rw[List.sum_cons]
    omega
theorem sum_le:∀{l:List Int},(∀b∈l,0≤b∧b<65536)→0≤l.sum∧l.sum≤65535*(l.length:Int)
 | [],_=>⟨Int.le_refl 0,by simp⟩
 | b :: r,h=>by
   have h1:=sum_le (l:=r) (fun x hx=>h x (List.mem_cons_of_mem _ hx))
   have h2:=h b (List.mem_cons_self ..)
   rw[List.sum_cons,List.length_cons]
   omega
def Same (F F':File):Prop:=F'.kind=F.kind∧F'.links=F.links∧F'.parent=F.parent∧F'.gen=F.gen
theorem Same.refl (F:File):Same F F:=⟨rfl,rfl,rfl,rfl⟩
theorem Same.trans {F G H:File} (h:Same F G) (k:Same G H):Same F H:=⟨k.1.trans h.1,k.2.1.trans h.2.1,k.2.2.1.trans h.2.2.1,k.2.2.2.trans h.2.2.2⟩
theorem put_alike (t:BSt) (g:Geom) (i:Int) (ks:List Int) (q off:Nat) (x:ByteArray):Same t.F (t.put g i ks q off x).F:=by
 unfold BSt.put
 split
 ·exact Same.refl _
 ·unfold BSt.named
  have h:Same t.F (t.listed g i ks q).F:=by
   unfold BSt.listed
   split
   ·exact⟨rfl,rfl,rfl,rfl⟩
   ·exact Same.refl _
  exact h.trans ⟨rfl,rfl,rfl,rfl⟩
theorem puts_alike (g:Geom) (i:Int) (ks:List Int):∀(f:Nat) (t:BSt) (at_:Nat) (d:List UInt8),Same t.F (BSt.puts g i ks f t at_ d).F
 | 0,t,_,_=>Same.refl _
 | f+1,t,at_,d=>by
   unfold BSt.puts
   split
   ·exact Same.refl _
   ·exact(put_alike t g i ks _ _ _).trans (puts_alike g i ks f _ _ _)
theorem write_alike (t:BSt) (g:Geom) (i:Int) (ks:List Int) (f off:Nat) (d:List UInt8):Same t.F (t.write g i ks f off d).F:=by
 unfold BSt.write
 split
 ·exact(puts_alike g i ks f t off d).trans ⟨rfl,rfl,rfl,rfl⟩
 ·exact puts_alike g i ks f t off d
theorem wipe_alike (t:BSt) (g:Geom) (i first:Int) (q:Nat):Same t.F (t.wipe g i first q).F:=by
 unfold BSt.wipe
 split
 ·exact⟨rfl,rfl,rfl,rfl⟩
 ·exact Same.refl _
theorem wipes_alike (g:Geom) (i first:Int):∀(l:List Nat) (t:BSt),Same t.F (BSt.wipes g i first l t).F
 | [],t=>Same.refl _
 | q :: r,t=>by
   unfold BSt.wipes
   exact(wipe_alike t g i first q).trans (wipes_alike g i first r _)
theorem unlist_alike (t:BSt) (g:Geom) (i first:Int):Same t.F (t.unlist g i first).F:=by
 unfold BSt.unlist
 split
 ·exact⟨rfl,rfl,rfl,rfl⟩
 ·exact Same.refl _
theorem rest_alike (t:BSt) (first:Int) (z:Nat):Same t.F (t.rest first z).F:=by
 unfold BSt.rest
 split
 ·exact⟨rfl,rfl,rfl,rfl⟩
 ·exact Same.refl _
theorem shrunk_alike (t:BSt) (g:Geom) (i first:Int) (z:Nat):Same t.F (t.shrunk g i first z).F:=by
 unfold BSt.shrunk
 exact((rest_alike t first z).trans (wipes_alike g i first _ _)).trans (unlist_alike _ g i first)
theorem cut_alike (t:BSt) (g:Geom) (i:Int) (z:Nat):Same t.F (t.cut g i z).F:=by
 unfold BSt.cut
 split
 ·exact Same.refl _
 ·have h:Same t.F (t.sized g i z []).F:=⟨rfl,rfl,rfl,rfl⟩
  split
  ·exact h.trans (shrunk_alike _ g i _ z)
  ·exact h
