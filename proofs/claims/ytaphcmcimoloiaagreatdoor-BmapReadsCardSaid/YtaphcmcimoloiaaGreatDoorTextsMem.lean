/-
 Layer 16's laws: what a call leaves of two texts.
-/
import Derived.Test.YtaphcmcimoloiaaGreatDoorBmD
import Derived.Test.YtaphcmcimoloiaaGreatDoorBmWrite
import Derived.Test.YtaphcmcimoloiaaGreatDoorBmE
import Derived.Test.YtaphcmcimoloiaaGreatDoorBmF
import Derived.Test.YtaphcmcimoloiaaGreatDoorSpBmDisk
import Derived.Test.YtaphcmcimoloiaaGreatDoorSideFork
namespace Go.Proofs.YtaphcmcimoloiaaGreatDoor
open Go Go.RowKit Txt Sp
def noK (k:Bool):Int:=if k then 3 else 2
section
variable {g:Sp.Geom} {S:Sp.Side} {F G:File} {t t0 t1:List UInt8} {Y:List Int} {r m:Nat} {k:Bool}
theorem text_stands (hg:g.ok) (h3:3≤g.inodes) (hb:Bm2 g (noK k) (if k then 2 else 3) S F G [1,2,3] Y r) (h0:FText S.read F t):Stands S g (noK k) F∧(∀b∈F.blocks,0≤b)∧(∀b∈F.blocks,b≠0→S.disk.has b):=by
 obtain ⟨k1,k2⟩:=kb_in hg h3 k
 obtain ⟨a,b,c,d⟩:=h0.alike
 have hz:=h0.size
 have hf:=h0.few
 have hh:∀x∈F.blocks,x≠0→S.disk.has x:=fun x hx hx0=>hb.a.hasB hg (hb.a.own x (mem_all.2 ⟨Or.inr hx,hx0⟩))
 refine ⟨Bm.stands hb.a hg k1 k2 (a.trans rfl) (c.trans rfl) ?_ ?_ (by omega),fun x hx=>?_,hh⟩
 ·rw [d]; decide
 ·rw [b]; decide
 ·by_cases hx0:x=0
  ·omega
  ·exact (hh x hx hx0).1
end
section
variable {g:Sp.Geom} {S:Sp.Side} {t0 t1:List UInt8} {m:Nat}
theorem texts_last (h:Texts2 g S t0 t1 m) (hm:m≤12):S.deps.last≤900000000∧S.deps.l.length≤400:=by
 obtain ⟨F,G,Y,r,hb,h0,h1,hp⟩:=h
 have h2:=hb.a.held.last
 have h3:=hb.a.held.few
 omega
theorem texts_cutC (hg:g.ok) (h3:3≤g.inodes) (h:Texts2 g S t0 t1 m) (hm:m<12) (k:Bool) (z:Nat) (hz:z≤2560):∃S',Texts2 g S' (if k then t0 else cutT t0 z) (if k then cutT t1 z else t1) (m+1)∧S'.disk=S.disk∧∀(W:World) (base B Bd:Nat) (D:Nat→Prop),SideAt W base B Bd S D→(∀j,D j→j<W.heap.size) →
 Calls Tryz.prog 32 #[pt B,gV g,.int .i64 (noK k),.int .i64 (z:Int)] W fun e w'=>∃v,e = .returned (.tuple #[v,.int .i64 0])∧SideTo W base B Bd S' D w':=by
 have hl:=(texts_last h (by omega)).1
 obtain ⟨F,G,Y,r,hb,h0,h1,hp⟩:=h.pick k
 obtain ⟨hc,ht⟩:=texts_cut hg h3 hb h0 h1 hp hm (z:=z) hz
 refine ⟨_,ht,cut_disk ..,fun W base B Bd D hs hD=>?_⟩
 obtain ⟨q1,q2,q3⟩:=text_stands hg h3 hb h0
 refine (bcut_any hs hD q1 hl (by rw [h0.alike.1]; decide) z hz).mono ?_
 rintro e w' (⟨-,v,rfl,-,hst⟩ | ⟨hne,-⟩)
 ·exact ⟨v,rfl,hst⟩
 ·exact absurd hc hne
theorem texts_writeC (hg:g.ok) (h3:3≤g.inodes) (h:Texts2 g S t0 t1 m) (hm:m<12) (k:Bool) (off:Nat) (ho:off≤2400) (x:ByteArray) (hx0:x.data.toList≠[]) (hx:x.data.toList.length≤160) (ks:List Int) (hks:∀q∈ks,0≤q∧q<g.groups) :
 (∀(W:World) (base B Bd:Nat) (D:Nat→Prop) (vk:Value),SideAt W base B Bd S D→(∀j,D j→j<W.heap.size)→(∀W',Turn D W W'→Ints W' vk ks) →
   Calls Tryz.prog 28 #[pt B,gV g,.int .i64 (noK k),.int .i64 (off:Int),.string x,vk] W fun e w'=>e = .returned (.tuple #[.slice none 0 0,.int .i64 109])∧Turn D W w') ∨
 ∃S',Texts2 g S' (if k then t0 else wrT t0 off x.data.toList) (if k then wrT t1 off x.data.toList else t1) (m+1)∧S'.disk=S.disk∧∀(W:World) (base B Bd:Nat) (D:Nat→Prop) (vk:Value),SideAt W base B Bd S D→(∀j,D j→j<W.heap.size)→(∀W',Turn D W W'→Ints W' vk ks) →
  Calls Tryz.prog 28 #[pt B,gV g,.int .i64 (noK k),.int .i64 (off:Int),.string x,vk] W fun e w'=>∃v,e = .returned (.tuple #[v,.int .i64 0])∧SideTo W base B Bd S' D w':=by
 have hl:=(texts_last h (by omega)).1
 obtain ⟨F,G,Y,r,hb,h0,h1,hp⟩:=h.pick k
 obtain ⟨q1,q2,q3⟩:=text_stands hg h3 hb h0
 have hw:=fun (W:World) (base B Bd:Nat) (D:Nat→Prop) (vk:Value) (hs:SideAt W base B Bd S D) (hD:∀j,D j→j<W.heap.size) (hv:∀W',Turn D W W'→Ints W' vk ks)=>
  bwrite_any hs hD q1 hl (by rw [h0.alike.1]; decide) q2 vk ks hv hks off x hx0 (by omega) 4 (by omega) (by decide)
 rcases texts_write hg h3 hb h0 h1 hp hm hks (off:=off) (d:=x.data.toList) ho hx with hc | ⟨hc,ht⟩
 ·refine Or.inl fun W base B Bd D vk hs hD hv=>(hw W base B Bd D vk hs hD hv).mono ?_
  rintro e w' (⟨h0,-⟩ | ⟨-,rfl,hT⟩)
  ·rw [show ((⟨S,F,[]⟩:BSt).writeC g (noK k) ks 4 off x.data.toList)=109 from hc] at h0
   exact absurd h0 (by decide)
  ·rw [show ((⟨S,F,[]⟩:BSt).writeC g (noK k) ks 4 off x.data.toList)=109 from hc]
   exact ⟨rfl,hT⟩
 ·refine Or.inr ⟨_,ht,write_disk ..,fun W base B Bd D vk hs hD hv=>(hw W base B Bd D vk hs hD hv).mono ?_⟩
  rintro e w' (⟨-,v,rfl,-,hst⟩ | ⟨hne,-⟩)
  ·exact ⟨v,rfl,hst⟩
  ·exact absurd hc hne
theorem texts_readC (hg:g.ok) (h3:3≤g.inodes) (h:Texts2 g S t0 t1 m) (k:Bool) (W:World) (base B Bd:Nat) (D:Nat→Prop) (hs:SideAt W base B Bd S D) (hD:∀j,D j→j<W.heap.size) :
 Calls Tryz.prog 29 #[pt B,gV g,.int .i64 (noK k),.int .i64 0,.int .i64 3000] W fun e w'=>e = .returned (.tuple #[.string (ofL (if k then t1 else t0)),.int .i64 0])∧SideTo W base B Bd S D w':=by
 obtain ⟨F,G,Y,r,hb,h0,h1,hp⟩:=h.pick k
 obtain ⟨q1,q2,q3⟩:=text_stands hg h3 hb h0
 have h2:=bread_any hs hD q1 q3 0 3000 (by decide) (by decide)
 have e:readL F S.read=(if k then t1 else t0):=h0.read
 rw [readB_all (by rw [e]; have:=h0.few; omega),e] at h2
 exact h2
end
end Go.Proofs.YtaphcmcimoloiaaGreatDoor
namespace Go.Proofs.YtaphcmcimoloiaaGreatDoor
open Go Go.RowKit Txt Sp
section
set_option maxHeartbeats 4000000
end
end Go.Proofs.YtaphcmcimoloiaaGreatDoor
namespace Go.Proofs.YtaphcmcimoloiaaGreatDoor
open Go Go.RowKit Txt Sp
theorem bytesV_app (a b:List UInt8):bytesV a ++ bytesV b=bytesV (a ++ b):=by unfold bytesV; rw [List.map_append]
theorem bytesV_drop (a:List UInt8) (k:Nat):(bytesV a).toArray.toList.drop k=bytesV (a.drop k):=by unfold bytesV; rw [List.map_drop]
def TxtV (w:World) (lo:Nat) (D:Nat→Prop) (v:Value) (t:List UInt8):Prop:=
 (v = .slice none 0 0∧t=[])∨∃b,v = .slice (some ⟨b,0,none⟩) t.length t.length∧w.heap[b]? = some (bytesO t 5 (0,0))∧lo≤b∧¬D b
section
variable {w w':World} {lo:Nat} {D D':Nat→Prop} {v:Value} {t:List UInt8}
theorem TxtV.turn {K:Nat→Prop} (h:TxtV w lo D v t) (hT:Turn K w w') (hk:∀b,¬D b→b<w.heap.size→lo≤b→(∃cs,w.heap[b]? = some (.cells cs 5 (0,0)))→¬K b) (hd:∀b,b<w.heap.size→D' b→D b):TxtV w' lo D' v t:=by
 rcases h with h | ⟨b,rfl,h1,h2,h3⟩
 ·exact Or.inl h
 ·have hb:=(Array.getElem?_eq_some_iff.1 h1).1
  exact Or.inr ⟨b,rfl,hT.heap h1 (hk b h3 hb h2 ⟨_,h1⟩),h2,fun hh=>h3 (hd b hb hh)⟩
theorem TxtV.form (h:TxtV w lo D v t):∃ad,v = .slice ad t.length t.length:=by
 rcases h with ⟨rfl,rfl⟩ | ⟨b,rfl,_⟩
 ·exact ⟨none,rfl⟩
 ·exact ⟨_,rfl⟩
theorem TxtV.copy (h:TxtV w lo D v t) {g n:Nat} (hg:w.heap[g]? = some (bytesO (zeros n) 5 (0,0))) (ty:TypeId) (cap:Nat) :
 ∃q,(Builtin.copy_ #[53,53] ty #[.slice (some ⟨g,0,none⟩) n cap,v]).run Tryz.prog w = .ok (goInt (q:Nat)) (w.setRow g (bytesV (cutT t n)).toArray):=by
 have hs:(Tryz.prog.info? 5).map (·.size)=some 1:=by kernel_rfl
 have hzl:(zeros n).length=n:=zeros_length n
 rcases h with ⟨rfl,rfl⟩ | ⟨b,rfl,h1,_,_⟩
 ·refine ⟨0,?_⟩
  rw [run_copy_nil Tryz.prog w _ _ ty 5 _ n cap Tryz.underlying53 (by rw [hs]; rfl)]
  have e:cutT [] n=zeros n:=by unfold cutT; simp
  rw [e]
  have e2:w.setRow g (bytesV (zeros n)).toArray=w:=setRow_self w g _ _ _ hg
  rw [e2]
  rfl
 ·have hcs:∀(j:Nat) (x:Value),(bytesV (t.take n))[j]? = some x→w.cell? ((⟨b,0,none⟩:Addr).add j)=some x:=fun j x hx=>by
   have hadd:(⟨b,0,none⟩:Addr).add j=⟨b,j,none⟩:=by unfold Addr.add; split <;> simp_all
   rw [hadd]
   refine cellOf h1 ?_
   unfold bytesV at hx ⊢
   rw [List.getElem?_map,Option.map_eq_some_iff] at hx
   obtain ⟨u,hu,rfl⟩:=hx
   have:t[j]? = some u:=by
    rw [List.getElem?_take] at hu
    split at hu
    ·exact hu
    ·cases hu
   simp [this]
  have hl:(bytesV (t.take n)).length=Nat.min t.length n:=by
   rw [bytesV_length,List.length_take]
   exact Nat.min_comm _ _
  have hc:=run_copy_row (P:=Tryz.prog) w 53 53 ty 5 g 0 n cap ⟨b,0,none⟩ t.length t.length (bytesV (zeros n)).toArray 5 (bytesV (t.take n)) Tryz.underlying53 hs hg hl hcs (by
   rw [bytesV_length,List.length_take,List.size_toArray,bytesV_length,hzl]
   omega) bytesV_one
  have hx:(bytesV (zeros n)).toArray.toList.take 0 ++ bytesV (t.take n) ++ (bytesV (zeros n)).toArray.toList.drop (0+(bytesV (t.take n)).length)=bytesV (cutT t n):=by
   rw [List.take_zero,List.nil_append,Nat.zero_add,bytesV_length,bytesV_drop,bytesV_app]
   have hz:(zeros n).drop (t.take n).length=zeros (n-t.length):=by
    have e:(zeros n).drop (t.take n).length=zeros (n-(t.take n).length):=List.drop_replicate
    rw [e,List.length_take]
    exact congrArg zeros (by omega)
   rw [hz]
   rfl
  rw [hx] at hc
  exact ⟨_,hc⟩
end
/-- Since w: a side, and two texts beside it. -/
structure TMem (w:World) (B Bd tb:Nat) (S:Sp.Side) (D:Nat→Prop) (t0 t1:List UInt8) (wr:World):Prop where
 side:SideAt wr 0 B Bd S D
 lt:∀j,D j→j<wr.heap.size
 low:∀j,D j→w.heap.size≤j
 tlo:w.heap.size≤tb
 tD:¬D tb
 txt:∃v0 v1,wr.heap[tb]? = some (.cells #[v0,v1] 80 (0,0))∧TxtV wr w.heap.size D v0 t0∧TxtV wr w.heap.size D v1 t1
section
variable {w wr wr':World} {B Bd tb:Nat} {S S':Sp.Side} {D:Nat→Prop} {t0 t1:List UInt8}
theorem TMem.below (h:TMem w B Bd tb S D t0 t1 wr) (hb:Below wr.heap.size wr wr'):TMem w B Bd tb S D t0 t1 wr':=by
 obtain ⟨v0,v1,h1,h2,h3⟩:=h.txt
 have hT:Turn (fun _=>False) wr wr':=Turn.of_below hb
 exact ⟨h.side.below hb,fun j hj=>Nat.lt_of_lt_of_le (h.lt j hj) hb.size,h.low,h.tlo,h.tD,v0,v1,heapOld hb h1,h2.turn hT (fun _ _ _ _ _ h=>h) (fun _ _ h=>h),h3.turn hT (fun _ _ _ _ _ h=>h) (fun _ _ h=>h)⟩
theorem TMem.tlt (h:TMem w B Bd tb S D t0 t1 wr):tb<wr.heap.size:=by
 obtain ⟨v0,v1,h1,_⟩:=h.txt
 exact (Array.getElem?_eq_some_iff.1 h1).1
theorem TMem.sideTo (h:TMem w B Bd tb S D t0 t1 wr) (hs:SideTo wr 0 B Bd S' D wr'):TMem w B Bd tb S' (fun j=>D j∨(wr.heap.size≤j∧j<wr'.heap.size)) t0 t1 wr':=by
 obtain ⟨hs1,K,hK,hT⟩:=hs
 obtain ⟨v0,v1,h1,h2,h3⟩:=h.txt
 have hsz:=hT.size
 have ht:=h.tlt
 have hlo:=h.tlo
 have hk:∀b,¬D b→b<wr.heap.size→w.heap.size≤b→(∃cs,wr.heap[b]? = some (.cells cs 5 (0,0)))→¬K b:=fun b hb _ _ _ hk=>hb (hK b hk)
 have hd:∀b,b<wr.heap.size→(D b∨(wr.heap.size≤b∧b<wr'.heap.size))→D b:=fun b hb hh=>hh.resolve_right (by omega)
 refine ⟨hs1,fun j hj=>?_,fun j hj=>?_,h.tlo,fun hh=>?_,v0,v1,hT.heap h1 (fun hk=>h.tD (hK _ hk)),h2.turn hT hk hd,h3.turn hT hk hd⟩
 ·rcases hj with hj | hj
  ·have:=h.lt j hj; omega
  ·exact hj.2
 ·rcases hj with hj | hj
  ·exact h.low j hj
  ·omega
 ·exact h.tD (hd _ ht hh)
theorem TMem.put (h:TMem w B Bd tb S D t0 t1 wr) {b:Nat} {t:List UInt8} (hb:wr.heap[b]? = some (bytesO t 5 (0,0))) (hlo:w.heap.size≤b) (hnd:¬D b) (k:Bool) :
 (∃y,wr.cell? ⟨tb,if k then 1 else 0,none⟩=some y)∧wr.frozen? ⟨tb,if k then 1 else 0,none⟩=false ∧
 TMem w B Bd tb S D (if k then t0 else t) (if k then t else t1) (wr.setCell ⟨tb,if k then 1 else 0,none⟩ (.slice (some ⟨b,0,none⟩) t.length t.length))∧Turn (fun j=>j=tb) wr (wr.setCell ⟨tb,if k then 1 else 0,none⟩ (.slice (some ⟨b,0,none⟩) t.length t.length)):=by
 obtain ⟨v0,v1,h1,h2,h3⟩:=h.txt
 have hT:Turn (fun j=>j=tb) wr (wr.setCell ⟨tb,if k then 1 else 0,none⟩ (.slice (some ⟨b,0,none⟩) t.length t.length)):=setCell_turn
 have hne:∀b,¬D b→b<wr.heap.size→w.heap.size≤b→(∃cs,wr.heap[b]? = some (.cells cs 5 (0,0)))→¬(b=tb):=fun b _ _ _ ⟨cs,hc⟩ e=>by
  rw [e,h1] at hc
  cases hc
 have hbt:b≠tb:=hne b hnd (Array.getElem?_eq_some_iff.1 hb).1 hlo ⟨_,hb⟩
 have hnew:TxtV (wr.setCell ⟨tb,if k then 1 else 0,none⟩ (.slice (some ⟨b,0,none⟩) t.length t.length)) w.heap.size D (.slice (some ⟨b,0,none⟩) t.length t.length) t:=Or.inr ⟨b,rfl,hT.heap hb hbt,hlo,hnd⟩
 have hsd:=h.side.turn hT (fun j hj e=>h.tD (by have e:j=tb:=e; exact e ▸ hj)) (fun _ _=>Nat.zero_le _)
 have hlt:∀j,D j→j<(wr.setCell ⟨tb,if k then 1 else 0,none⟩ (.slice (some ⟨b,0,none⟩) t.length t.length)).heap.size:=fun j hj=>Nat.lt_of_lt_of_le (h.lt j hj) hT.size
 cases k with
 | false=>exact ⟨⟨_,cellOf (k:=0) h1 rfl⟩,freeOf h1,⟨hsd,hlt,h.low,h.tlo,h.tD,_,v1,setHeap_at (k:=0) h1 _,hnew,h3.turn hT hne (fun _ _ h=>h)⟩,hT⟩
 | true=>exact ⟨⟨_,cellOf (k:=1) h1 rfl⟩,freeOf h1,⟨hsd,hlt,h.low,h.tlo,h.tD,v0,_,setHeap_at (k:=1) h1 _,h2.turn hT hne (fun _ _ h=>h),hnew⟩,hT⟩
end
end Go.Proofs.YtaphcmcimoloiaaGreatDoor
