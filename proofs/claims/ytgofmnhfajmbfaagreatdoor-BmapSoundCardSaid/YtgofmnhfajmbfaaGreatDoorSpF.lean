/-
 SpF: SpSect,SpFile,SpFileS,SpBm,SpBmOps,SpBmPut.
-/
import Derived.Test.YtgofmnhfajmbfaaGreatDoorSpC
namespace Go.Proofs.YtgofmnhfajmbfaaGreatDoor.Sp
open Go Txt
theorem patch_mid {a b b' c:List UInt8} {n:Nat} (hn:n=a.length) (hb:b'.length=b.length):q5z (a ++ (b ++ c)) n b' = a ++ (b' ++ c):=by
 subst hn
 unfold q5z
 rw[List.take_left' rfl,←List.drop_drop,List.drop_left' rfl,hb,List.drop_left' rfl,List.append_assoc]
def q128z (n:Inode):List UInt8:=[byteB n.kind,byteB n.links] ++ textL 2 n.size.toNat ++ textL 2 n.parent.toNat ++ textL 2 n.gen.toNat
def q35z (l:List Int):List UInt8:=l.flatMap (fun b=>textL 2 b.toNat)
theorem q74z:∀l:List Int,(q35z l).length=2*l.length
 | []=>rfl
 | b :: r=>by
   have:=q74z r
   unfold q35z at this ⊢
   rw[List.flatMap_cons,List.length_append,q16z,this,List.length_cons]
   omega
theorem listL2_append (a b:List Int):q35z (a ++ b)=q35z a ++ q35z b:=by unfold q35z; rw[List.flatMap_append]
theorem q77z (a:Int) (b:List Int):q35z (a :: b)=textL 2 a.toNat ++ q35z b:=by unfold q35z; rw[List.flatMap_cons]
theorem listL2_set {l:List Int} {i:Nat} (hi:i<l.length) (b:Int) (pre post:List UInt8):q5z (pre ++ (q35z l ++ post)) (pre.length+2*i) (textL 2 b.toNat)=pre ++ (q35z (l.set i b) ++ post):=by
 have h1:l=l.take i ++ l[i] :: l.drop (i+1):=by rw[←List.drop_eq_getElem_cons hi,List.take_append_drop]
 have h2:l.set i b=l.take i ++ b :: l.drop (i+1):=by rw[List.set_eq_take_append_cons_drop,if_pos hi]
 have e1:pre ++ (q35z l ++ post)=(pre ++ q35z (l.take i)) ++ (textL 2 l[i].toNat ++ (q35z (l.drop (i+1)) ++ post)):=by
  conv=>lhs; rw[h1]
  rw[listL2_append,q77z]
  simp only[List.append_assoc]
 rw[e1,patch_mid (by rw[List.length_append,q74z,List.length_take]; omega) (by rw[q16z,q16z]),h2,listL2_append,q77z]
 simp only[List.append_assoc]
theorem nodeL6_length (n:Inode):(q128z n).length=8:=by unfold q128z; simp[q16z]
theorem q127z (n:Inode) (h:n.direct.length=8):(q28z n).data.toList=q128z n ++ (q35z n.direct ++ (textL 2 n.more.toNat ++ zeros 38)):=by
 unfold q28z
 rw[q8z]
 unfold padL
 have hl:([byteB n.kind,byteB n.links] ++ textL 2 n.size.toNat ++ textL 2 n.parent.toNat ++ textL 2 n.gen.toNat ++ List.flatMap (fun b=>textL 2 b.toNat) n.direct ++ textL 2 n.more.toNat).length=26:=by
  have:=q74z n.direct
  unfold q35z at this
  simp only[List.length_append,q16z,this,h]
  rfl
 rw[hl]
 unfold q128z q35z
 simp only[List.append_assoc]
theorem inodeB_of {n:Inode} {s:ByteArray} (h:n.direct.length=8) (hs:s.data.toList=q128z n ++ (q35z n.direct ++ (textL 2 n.more.toNat ++ zeros 38))):s=q28z n:=Txt.ext (by rw[hs,q127z n h])
section
variable {n:Inode} (h:n.direct.length=8)
include h
theorem inodeB_direct {i:Nat} (hi:i<8) (b:Int):ofL (q5z (q28z n).data.toList (8+2*i) (textL 2 b.toNat))=q28z { n with direct:=n.direct.set i b }:=by
 refine inodeB_of (by rw[List.length_set]; exact h) ?_
 rw[q8z,q127z n h]
 have:=listL2_set (l:=n.direct) (i:=i) (by omega) b (q128z n) (textL 2 n.more.toNat ++ zeros 38)
 rw[nodeL6_length] at this
 exact this
theorem inodeB_more (b:Int):ofL (q5z (q28z n).data.toList 24 (textL 2 b.toNat))=q28z { n with more:=b }:=by
 refine inodeB_of h ?_
 rw[q8z,q127z n h]
 have hl:(q128z n ++ q35z n.direct).length=24:=by rw[List.length_append,nodeL6_length,q74z,h]
 have:=patch_mid (a:=q128z n ++ q35z n.direct) (b:=textL 2 n.more.toNat) (b':=textL 2 b.toNat) (c:=zeros 38) (n:=24) hl.symm (by rw[q16z,q16z])
 rw[List.append_assoc,List.append_assoc] at this
 exact this
theorem inodeB_size (b:Int):ofL (q5z (q28z n).data.toList 2 (textL 2 b.toNat))=q28z { n with size:=b }:=by
 refine inodeB_of h ?_
 rw[q8z,q127z n h]
 have:=patch_mid (a:=[byteB n.kind,byteB n.links]) (b:=textL 2 n.size.toNat) (b':=textL 2 b.toNat) (c:=textL 2 n.parent.toNat ++ textL 2 n.gen.toNat ++ (q35z n.direct ++ (textL 2 n.more.toNat ++ zeros 38))) (n:=2) rfl (by rw[q16z,q16z])
 unfold q128z at this ⊢
 simp only[List.append_assoc] at this ⊢
 exact this
end
def listB (l:List Int):ByteArray:=ofL (q35z l)
theorem listB_set {l:List Int} {j:Nat} (hj:j<l.length) (b:Int):ofL (q5z (listB l).data.toList (2*j) (textL 2 b.toNat))=listB (l.set j b):=by
 unfold listB
 rw[q8z]
 have:=listL2_set hj b [] []
 simp only[List.nil_append,List.append_nil,List.length_nil,Nat.zero_add] at this
 rw[this]
theorem q130z:listB (List.replicate 32 0)=blank:=by decide +kernel
theorem num2 {b:Int} (h0:0≤b) (h1:b<65536):(numL (textL 2 b.toNat):Int)=b:=by
 rw[numL_textL 2 b.toNat (by omega)]
 omega
theorem listL2_get:∀{l:List Int} {j:Nat} (hj:j<l.length),((q35z l).drop (2*j)).take 2=textL 2 l[j].toNat
 | b :: r,0,_=>by
   rw[q77z,Nat.mul_zero,List.drop_zero,List.take_left' (q16z 2 _)]
   rfl
 | b :: r,j+1,hj=>by
   have ih:=listL2_get (l:=r) (j:=j) (by simpa using hj)
   rw[q77z,show 2*(j+1)=(textL 2 b.toNat).length+2*j by rw[q16z]; omega,←List.drop_drop,List.drop_left' rfl,ih]
   rfl
theorem listB_size {l:List Int} (h:l.length=32):(listB l).size=64:=by
 unfold listB
 rw[Lib.size_eq,q8z,q74z,h]
theorem getN_list {l:List Int} (h:l.length=32) (hb:∀b∈l,0≤b∧b<65536) {i:Nat} (hi:i<32):getN (listB l) (2*(i:Int)) 2=l[i]'(by omega):=by
 have hc:getC (listB l) (2*(i:Int)) 2=0:=by
  unfold getC
  rw[if_neg (by rw[listB_size h]; simp),if_pos]
  exact⟨Or.inr (Or.inl rfl),by unfold inside; omega⟩
 unfold getN
 rw[if_pos hc]
 unfold numAt
 have e:(2*(i:Int)).toNat=2*i:=by omega
 rw[e]
 show(numL (((ofL (q35z l)).data.toList.drop (2*i)).take 2):Int)=_
 rw[q8z,listL2_get (by omega)]
 have:=hb _ (List.getElem_mem (by omega:i<l.length))
 exact num2 this.1 this.2
def upd (V:Int→ByteArray) (j:Int) (off:Nat) (b:List UInt8):Int→ByteArray:=fun i=>if i=j then ofL (q5z (V j).data.toList off b) else V i
theorem upd_same (V:Int→ByteArray) (j:Int) (off:Nat) (b:List UInt8):upd V j off b j=ofL (q5z (V j).data.toList off b):=if_pos rfl
theorem q10z (V:Int→ByteArray) {i j:Int} (h:i≠j) (off:Nat) (b:List UInt8):upd V j off b i=V i:=if_neg h
theorem q99z {S:Side} (h:S.Ok) {i off:Int} {b:ByteArray} {ahead:List Int} (hc:S.changeC i off b ahead=0):(S.change i off b ahead).read=upd S.read i off.toNat b.data.toList:=
 funext fun j=>Side.read_change h hc j
structure File where
 kind:Int
 links:Int
 size:Int
 parent:Int
 gen:Int
 blocks:List Int
 more:Int
def File.node (F:File):Inode:=⟨F.kind,F.links,F.size,F.parent,F.gen,F.blocks.take 8,F.more⟩
def File.all (F:File):List Int:=(F.more :: F.blocks).filter (fun b=>decide (b≠0))
/-- The file F stands in the inode's sector j; it names no sector twice. -/
structure FileOk (V:Int→ByteArray) (j:Int) (F:File):Prop where
 len:F.blocks.length=40
 node:V j=q28z F.node
 none:F.more=0→F.blocks.drop 8=List.replicate 32 0
 list:F.more≠0→V F.more=listB (F.blocks.drop 8)
 nod:F.all.Nodup
 apart:j∉F.all
def secL (V:Int→ByteArray) (b:Int):List UInt8:=if b=0 then zeros 64 else(V b).data.toList
def File.img (F:File) (V:Int→ByteArray):List UInt8:=F.blocks.flatMap (secL V)
def Sized (V:Int→ByteArray) (F:File):Prop:=∀b∈F.all,(V b).size=64
section
variable {V:Int→ByteArray} {j:Int} {F:File}
theorem q6z {b:Int}:b∈F.all↔(b=F.more∨b∈F.blocks)∧b≠0:=by
 unfold File.all
 rw[List.mem_filter,List.mem_cons,decide_eq_true_iff]
theorem q107z (hz:Sized V F) {b:Int} (hb:b∈F.blocks):(secL V b).length=64:=by
 unfold secL
 split
 ·exact zeros_length 64
 ·rename_i h0
  exact hz b (q6z.2 ⟨Or.inr hb,h0⟩)
theorem q185z {α:Type} (f:Int→List α):∀l:List Int,(∀b∈l,(f b).length=64)→(l.flatMap f).length=64*l.length
 | [],_=>rfl
 | b :: r,h=>by
   rw[List.flatMap_cons,List.length_append,h b (List.mem_cons_self ..),q185z f r (fun q hq=>h q (List.mem_cons_of_mem _ hq)),List.length_cons]
   omega
theorem q124z (h:FileOk V j F) (hz:Sized V F):(F.img V).length=2560:=by
 unfold File.img
 rw[q185z _ _ (fun b hb=>q107z hz hb),h.len]
theorem flat_set (f:Int→List UInt8) {l:List Int} {i:Nat} (hi:i<l.length) (x:Int):(l.set i x).flatMap f=(l.take i).flatMap f ++ (f x ++ (l.drop (i+1)).flatMap f):=by
 rw[List.set_eq_take_append_cons_drop,if_pos hi,List.flatMap_append,List.flatMap_cons]
theorem flat_getI (f:Int→List UInt8) {l:List Int} {i:Nat} (hi:i<l.length):l.flatMap f=(l.take i).flatMap f ++ (f l[i] ++ (l.drop (i+1)).flatMap f):=by
 have h1:l=l.take i ++ l[i] :: l.drop (i+1):=by rw[←List.drop_eq_getElem_cons hi,List.take_append_drop]
 conv=>lhs; rw[h1]
 rw[List.flatMap_append,List.flatMap_cons]
theorem flat_congr {f g:Int→List UInt8} {l:List Int} (h:∀b∈l,f b=g b):l.flatMap f=l.flatMap g:=by
 induction l with
 | nil=>rfl
 | cons b r ih=>rw[List.flatMap_cons,List.flatMap_cons,h b (List.mem_cons_self ..),ih (fun q hq=>h q (List.mem_cons_of_mem _ hq))]
theorem FileOk.elsewhere (h:FileOk V j F) {k:Int} (hj:k≠j) (hk:k∉F.all) (off:Nat) (b:List UInt8):FileOk (upd V k off b) j F∧F.img (upd V k off b)=F.img V∧(Sized V F→Sized (upd V k off b) F):=by
 have hne:∀q∈F.all,q≠k:=fun q hq e=>hk (e ▸ hq)
 refine⟨⟨h.len,by rw[q10z V (Ne.symm hj)]; exact h.node,h.none,fun hm=>?_,h.nod,h.apart⟩,?_,fun hz q hq=>by rw[q10z V (hne q hq)]; exact hz q hq⟩
 ·rw[q10z V (hne F.more (q6z.2 ⟨Or.inl rfl,hm⟩))]
  exact h.list hm
 ·unfold File.img
  refine flat_congr (fun q hq=>?_)
  unfold secL
  split
  ·rfl
  ·rename_i h0
   rw[q10z V (hne q (q6z.2 ⟨Or.inr hq,h0⟩))]
theorem FileOk.once (h:FileOk V j F) {i i':Nat} (hi:i<F.blocks.length) (hi':i' < F.blocks.length) (h0:F.blocks[i]≠0) (he:F.blocks[i]=F.blocks[i']):i=i':=by
 have hn:=h.nod
 unfold File.all at hn
 have hb:(F.blocks.filter (fun b=>decide (b≠0))).Nodup:=by
  rw[List.filter_cons] at hn
  split at hn
  ·exact(List.nodup_cons.1 hn).2
  ·exact hn
 have hc:(F.blocks.filter (fun b=>decide (b≠0))).count F.blocks[i]≤1:=List.nodup_iff_count.1 hb _
 rw[List.count_filter (by simpa using h0)] at hc
 refine Classical.byContradiction fun hne=>?_
 have h2:2≤F.blocks.count F.blocks[i]:=by
  rcases Nat.lt_or_gt_of_ne hne with hlt | hlt
  ·have e1:F.blocks.take (i+1) ++ F.blocks.drop (i+1)=F.blocks:=List.take_append_drop _ _
   have c1:1≤(F.blocks.take (i+1)).count F.blocks[i]:=List.count_pos_iff.2 (List.mem_take_iff_getElem.2 ⟨i,by omega,rfl⟩)
   have c2:1≤(F.blocks.drop (i+1)).count F.blocks[i]:=List.count_pos_iff.2 (List.mem_drop_iff_getElem.2 ⟨i' - (i+1),by omega,by rw[he]; congr 1; omega⟩)
   have:=List.count_append (a:=F.blocks[i]) (l₁:=F.blocks.take (i+1)) (l₂:=F.blocks.drop (i+1))
   rw[e1] at this
   omega
  ·have e1:F.blocks.take (i' + 1) ++ F.blocks.drop (i' + 1)=F.blocks:=List.take_append_drop _ _
   have c1:1≤(F.blocks.take (i' + 1)).count F.blocks[i]:=List.count_pos_iff.2 (List.mem_take_iff_getElem.2 ⟨i',by omega,he.symm⟩)
   have c2:1≤(F.blocks.drop (i' + 1)).count F.blocks[i]:=List.count_pos_iff.2 (List.mem_drop_iff_getElem.2 ⟨i-(i' + 1),by omega,by congr 1; omega⟩)
   have:=List.count_append (a:=F.blocks[i]) (l₁:=F.blocks.take (i' + 1)) (l₂:=F.blocks.drop (i' + 1))
   rw[e1] at this
   omega
 omega
theorem FileOk.more_apart (h:FileOk V j F) (h0:F.more≠0):F.more∉F.blocks:=fun hm=>by
 have hn:=h.nod
 unfold File.all at hn
 rw[List.filter_cons,if_pos (by simpa using h0),List.nodup_cons] at hn
 exact hn.1 (List.mem_filter.2 ⟨hm,by simpa using h0⟩)
theorem FileOk.data (h:FileOk V j F) (hz:Sized V F) {i:Nat} (hi:i<40) (h0:F.blocks[i]'(by rw[h.len]; exact hi)≠0) {off:Nat} {x:List UInt8} (hx:off+x.length≤64) :
 FileOk (upd V (F.blocks[i]'(by rw[h.len]; exact hi)) off x) j F∧F.img (upd V (F.blocks[i]'(by rw[h.len]; exact hi)) off x)=q5z (F.img V) (64*i+off) x∧Sized (upd V (F.blocks[i]'(by rw[h.len]; exact hi)) off x) F:=by
 have hi2:i<F.blocks.length:=by rw[h.len]; exact hi
 obtain⟨b,hb⟩:=zx (F.blocks[i])
 have hmem:b∈F.all:=q6z.2 ⟨Or.inr (hb ▸ List.getElem_mem hi2),hb ▸ h0⟩
 have hb0:b≠0:=hb ▸ h0
 rw[hb]
 have hsz:=hz b hmem
 have hjb:j≠b:=fun e=>h.apart (e ▸ hmem)
 refine⟨⟨h.len,by rw[q10z V hjb]; exact h.node,h.none,fun hm=>?_,h.nod,h.apart⟩,?_,fun q hq=>?_⟩
 ·rw[q10z V (fun e=>h.more_apart hm (by rw[e,←hb]; exact List.getElem_mem hi2))]
  exact h.list hm
 ·unfold File.img
  have hf:∀q,q≠b→secL (upd V b off x) q=secL V q:=fun q hq=>by
   unfold secL
   split
   ·rfl
   ·rw[q10z V hq]
  have h1:(F.blocks.take i).flatMap (secL (upd V b off x))=(F.blocks.take i).flatMap (secL V):=flat_congr fun q hq=>hf q fun e=>by
   obtain⟨i',hi',he⟩:=List.mem_take_iff_getElem.1 hq
   have h9:=h.once (i':=i') hi2 (by omega) h0 (by rw[hb,←e,←he])
   omega
  have h2:(F.blocks.drop (i+1)).flatMap (secL (upd V b off x))=(F.blocks.drop (i+1)).flatMap (secL V):=flat_congr fun q hq=>hf q fun e=>by
   obtain⟨i',hi',he⟩:=List.mem_drop_iff_getElem.1 hq
   have h9:=h.once (i':=i+1+i') hi2 (by omega) h0 (by rw[hb,←e,←he])
   omega
  have h3:secL (upd V b off x) b=q5z (V b).data.toList off x:=by
   unfold secL
   rw[if_neg hb0,upd_same,q8z]
  have h4:secL V b=(V b).data.toList:=by unfold secL; rw[if_neg hb0]
  rw[flat_getI (secL (upd V b off x)) hi2,flat_getI (secL V) hi2,hb,h1,h2,h3,h4]
  have hl:((F.blocks.take i).flatMap (secL V)).length=64*i:=by
   rw[q185z _ _ (fun q hq=>q107z hz (List.mem_of_mem_take hq)),List.length_take]
   congr 1
   omega
  have hb64:(V b).data.toList.length=64:=hsz
  have hd:List.drop (64*i+off+x.length) ((F.blocks.take i).flatMap (secL V) ++ ((V b).data.toList ++ (F.blocks.drop (i+1)).flatMap (secL V)))=List.drop (off+x.length) (V b).data.toList ++ (F.blocks.drop (i+1)).flatMap (secL V):=by
   rw[show 64*i+off+x.length=((F.blocks.take i).flatMap (secL V)).length+(off+x.length) by omega,←List.drop_drop,List.drop_left' rfl,List.drop_append_of_le_length (by omega)]
  unfold q5z
  rw[hd,List.take_append,hl,List.take_of_length_le (by omega:((F.blocks.take i).flatMap (secL V)).length≤64*i+off),show 64*i+off-64*i=off by omega,List.take_append_of_le_length (by omega)]
  simp only[List.append_assoc]
 ·by_cases e:q=b
  ·subst e
   rw[upd_same,Lib.size_eq,q8z,q50z (by have:(V q).data.toList.length=64:=hsz; omega)]
   exact hsz
  ·rw[q10z V e]
   exact hz q hq
end
section
variable {V:Int→ByteArray} {j:Int} {F:File}
theorem filter_mid (p:Int→Bool) (A C:List Int) (b:Int):(A ++ b :: C).filter p=A.filter p ++ (if p b=true then b :: C.filter p else C.filter p):=by rw[List.filter_append,List.filter_cons]
theorem set_all {i:Nat} (hi:i<F.blocks.length) (b:Int) (hn:F.all.Nodup) (hb:b=0∨b∉F.all) :
 ({ F with blocks:=F.blocks.set i b }:File).all.Nodup∧∀q∈({ F with blocks:=F.blocks.set i b }:File).all,q=b∨q∈F.all:=by
 have h1:F.blocks=F.blocks.take i ++ F.blocks[i] :: F.blocks.drop (i+1):=by rw[←List.drop_eq_getElem_cons hi,List.take_append_drop]
 have h2:F.blocks.set i b=F.blocks.take i ++ b :: F.blocks.drop (i+1):=by rw[List.set_eq_take_append_cons_drop,if_pos hi]
 have e1:F.all=((F.more :: F.blocks.take i) ++ F.blocks[i] :: F.blocks.drop (i+1)).filter (fun b=>decide (b≠0)):=by
  unfold File.all
  conv=>lhs; rw[h1]
  rfl
 have e2:({ F with blocks:=F.blocks.set i b }:File).all=((F.more :: F.blocks.take i) ++ b :: F.blocks.drop (i+1)).filter (fun b=>decide (b≠0)):=by
  unfold File.all
  dsimp only
  rw[h2]
  rfl
 have hsub:(((F.more :: F.blocks.take i) ++ F.blocks.drop (i+1)).filter (fun b=>decide (b≠0))).Nodup:=by
  refine List.Nodup.sublist ?_ hn
  rw[e1]
  exact List.Sublist.filter _ (List.Sublist.append (List.Sublist.refl _) (List.sublist_cons_self _ _))
 have hmem:∀q∈((F.more :: F.blocks.take i) ++ F.blocks.drop (i+1)).filter (fun b=>decide (b≠0)),q∈F.all:=fun q hq=>by
  rw[e1]
  exact(List.Sublist.filter _ (List.Sublist.append (List.Sublist.refl _) (List.sublist_cons_self _ _))).subset hq
 rw[e2]
 by_cases h0:b=0
 ·have e3:((F.more :: F.blocks.take i) ++ b :: F.blocks.drop (i+1)).filter (fun b=>decide (b≠0))=((F.more :: F.blocks.take i) ++ F.blocks.drop (i+1)).filter (fun b=>decide (b≠0)):=by
   rw[filter_mid,if_neg (by simp[h0]),←List.filter_append]
  rw[e3]
  exact⟨hsub,fun q hq=>Or.inr (hmem q hq)⟩
 ·have hb:b∉F.all:=hb.resolve_left h0
  have e3:((F.more :: F.blocks.take i) ++ b :: F.blocks.drop (i+1)).filter (fun b=>decide (b≠0))=(F.more :: F.blocks.take i).filter (fun b=>decide (b≠0)) ++ b :: (F.blocks.drop (i+1)).filter (fun b=>decide (b≠0)):=by
   rw[filter_mid,if_pos (by simp[h0])]
  rw[e3]
  rw[List.filter_append] at hsub hmem
  constructor
  ·rw[List.perm_middle.nodup_iff,List.nodup_cons]
   exact⟨fun hm=>hb (hmem b hm),hsub⟩
  ·intro q hq
   rcases List.mem_append.1 hq with hq | hq
   ·exact Or.inr (hmem q (List.mem_append_left _ hq))
   ·rcases List.mem_cons.1 hq with rfl | hq
    ·exact Or.inl rfl
    ·exact Or.inr (hmem q (List.mem_append_right _ hq))
theorem FileOk.point (h:FileOk V j F) {i:Nat} (hi:i<40) (b:Int) (hb:b=0∨(b∉F.all∧b≠j)) (hm:8≤i→F.more≠0) :
 FileOk (upd V (if i<8 then j else F.more) (if i<8 then 8+2*i else 2*(i-8)) (textL 2 b.toNat)) j { F with blocks:=F.blocks.set i b }:=by
 have hi2:i<F.blocks.length:=by rw[h.len]; exact hi
 obtain⟨hn,hs⟩:=set_all hi2 b h.nod (hb.imp_right fun h=>h.1)
 have hap:j∉({ F with blocks:=F.blocks.set i b }:File).all:=fun hj=>by
  rcases hs j hj with e | hj'
  ·rcases hb with h0 | ⟨_,h1⟩
   ·rw[e,h0] at hj
    exact(q6z.1 hj).2 rfl
   ·exact h1 e.symm
  ·exact h.apart hj'
 have hd8:(F.blocks.take 8).length=8:=by rw[List.length_take,h.len]; rfl
 have hmj:F.more≠0→F.more≠j:=fun h0 e=>h.apart (e ▸ q6z.2 ⟨Or.inl rfl,h0⟩)
 by_cases h8:i<8
 ·simp only[if_pos h8]
  have hdr:(F.blocks.set i b).drop 8=F.blocks.drop 8:=List.drop_set_of_lt h8
  refine⟨by rw[List.length_set]; exact h.len,?_,fun h0=>?_,fun h0=>?_,hn,hap⟩
  ·rw[upd_same,h.node,inodeB_direct (n:=F.node) hd8 h8]
   unfold File.node
   dsimp only
   rw[List.take_set]
  ·dsimp only at h0 ⊢
   rw[hdr]
   exact h.none h0
  ·dsimp only at h0 ⊢
   rw[q10z V (hmj h0),hdr]
   exact h.list h0
 ·simp only[if_neg h8]
  have hm0:=hm (by omega)
  refine⟨by rw[List.length_set]; exact h.len,?_,fun h0=>absurd h0 hm0,fun h0=>?_,hn,hap⟩
  ·rw[q10z V (Ne.symm (hmj hm0)),h.node]
   unfold File.node
   dsimp only
   rw[List.take_set_of_le (by omega)]
  ·dsimp only
   rw[upd_same,h.list hm0,listB_set (by rw[List.length_drop,h.len]; omega)]
   rw[List.drop_set,if_neg (by omega)]
theorem FileOk.setMore (h:FileOk V j F) (m:Int) (h0:m=0→F.blocks.drop 8=List.replicate 32 0) (hm:m≠0→m∉F.blocks∧m≠j∧V m=listB (F.blocks.drop 8)) :
 FileOk (upd V j 24 (textL 2 m.toNat)) j { F with more:=m }:=by
 have hd8:(F.blocks.take 8).length=8:=by rw[List.length_take,h.len]; rfl
 have hfn:(F.blocks.filter (fun b=>decide (b≠0))).Nodup:=by
  have hn:=h.nod
  unfold File.all at hn
  rw[List.filter_cons] at hn
  split at hn
  ·exact(List.nodup_cons.1 hn).2
  ·exact hn
 refine⟨h.len,?_,h0,fun hm0=>?_,?_,fun hj=>?_⟩
 ·rw[upd_same,h.node,inodeB_more (n:=F.node) hd8]
  rfl
 ·rw[q10z V (hm hm0).2.1]
  exact(hm hm0).2.2
 ·unfold File.all
  dsimp only
  rw[List.filter_cons]
  split
  ·rename_i hm0
   rw[List.nodup_cons]
   exact⟨fun hx=>(hm (by simpa using hm0)).1 (List.mem_filter.1 hx).1,hfn⟩
  ·exact hfn
 ·obtain⟨hj,hj0⟩:=q6z.1 hj
  rcases hj with e | hj
  ·have e:j=m:=e
   exact(hm (e ▸ hj0)).2.1 e.symm
  ·exact h.apart (q6z.2 ⟨Or.inr hj,hj0⟩)
theorem FileOk.setSize (h:FileOk V j F) (z:Int):FileOk (upd V j 2 (textL 2 z.toNat)) j { F with size:=z }:=by
 have hd8:(F.blocks.take 8).length=8:=by rw[List.length_take,h.len]; rfl
 refine⟨h.len,?_,h.none,fun hm0=>?_,h.nod,h.apart⟩
 ·rw[upd_same,h.node,inodeB_size (n:=F.node) hd8]
  rfl
 ·rw[q10z V (show F.more≠j from fun e=>h.apart (e ▸ q6z.2 ⟨Or.inl rfl,hm0⟩))]
  exact h.list hm0
theorem img_same {G:File} {k:Int} (hk:k∉G.blocks∨k=0) (off:Nat) (x:List UInt8):G.img (upd V k off x)=G.img V:=by
 unfold File.img
 refine flat_congr (fun q hq=>?_)
 unfold secL
 split
 ·rfl
 ·rename_i h0
  rw[q10z V (show q≠k from fun e=>hk.elim (fun h=>h (e ▸ hq)) (fun h=>h0 (e.trans h)))]
theorem img_point (h:FileOk V j F) (hz:Sized V F) {i:Nat} (hi:i<40) {b:Int} (hb:b=0∨(V b).size=64):({ F with blocks:=F.blocks.set i b }:File).img V=q5z (F.img V) (64*i) (secL V b):=by
 have hi2:i<F.blocks.length:=by rw[h.len]; exact hi
 have hl:((F.blocks.take i).flatMap (secL V)).length=64*i:=by
  rw[q185z _ _ (fun q hq=>q107z hz (List.mem_of_mem_take hq)),List.length_take]
  congr 1
  omega
 have hs:(secL V b).length=64:=by
  unfold secL
  split
  ·exact zeros_length 64
  ·rename_i h0
   exact hb.resolve_left h0
 unfold File.img
 dsimp only
 rw[flat_set _ hi2,flat_getI _ hi2,patch_mid hl.symm (by rw[hs,q107z hz (List.getElem_mem hi2)])]
end
def q1z (g:Geom) (i:Int):Int:=g.first ((i-1) / g.inodes)+2+(i-1) % g.inodes
theorem sec_off {g:Geom} {k k' r r':Int} (hr:0≤r∧r<g.long) (hr':0≤r'∧r' < g.long) (h:g.first k+r=g.first k' + r'):k=k'∧r=r':=by
 have h1:k*g.long+r=k' * g.long+r':=by unfold Geom.first at h; omega
 exact step_inj hr hr' h1
section
variable {g:Geom} (hg:g.ok)
include hg
theorem q51z {k p:Int} (hp:0≤p∧p<g.blocks) (k':Int) (b:Bool):q2z g k p≠q3z g k' b:=fun h=>by
 have hl:g.long=2+g.inodes+g.blocks:=rfl
 have hi:=hg.2.2.1
 have h2:g.first k+(2+g.inodes+p)=g.first k' + (if b then 1 else 0):=by unfold q2z q3z at h; omega
 have:=(sec_off (by omega) (by cases b <;> simp <;> omega) h2).2
 cases b <;> simp at this <;> omega
theorem q21z {i:Int} (k':Int) (b:Bool):q1z g i≠q3z g k' b:=fun h=>by
 have hl:g.long=2+g.inodes+g.blocks:=rfl
 have hi:=hg.2.2.1
 have hb:=hg.2.2.2.2.1
 have r0:0≤(i-1) % g.inodes:=Int.emod_nonneg _ (by omega)
 have r1:(i-1) % g.inodes<g.inodes:=Int.emod_lt_of_pos _ (by omega)
 have h2:g.first ((i-1) / g.inodes)+(2+(i-1) % g.inodes)=g.first k' + (if b then 1 else 0):=by unfold q1z q3z at h; omega
 have:=(sec_off (by omega) (by cases b <;> simp <;> omega) h2).2
 cases b <;> simp at this <;> omega
theorem q27z {i k p:Int} (hp:0≤p∧p<g.blocks):q1z g i≠q2z g k p:=fun h=>by
 have hl:g.long=2+g.inodes+g.blocks:=rfl
 have hi:=hg.2.2.1
 have r0:0≤(i-1) % g.inodes:=Int.emod_nonneg _ (by omega)
 have r1:(i-1) % g.inodes<g.inodes:=Int.emod_lt_of_pos _ (by omega)
 have h2:g.first ((i-1) / g.inodes)+(2+(i-1) % g.inodes)=g.first k+(2+g.inodes+p):=by unfold q1z q2z at h; omega
 have:=(sec_off (by omega) (by omega) h2).2
 omega
theorem q65z {i:Int} (h1:1≤i) (h2:i≤g.groups*g.inodes):0≤q1z g i∧q1z g i<g.size:=by
 have hl:g.long=2+g.inodes+g.blocks:=rfl
 have hlp:=Geom.long_bd hg
 have hb:=hg.2.2.2.2.1
 obtain⟨_,⟨k0,k1⟩,⟨p0,p1⟩,_⟩:=inodeC_no hg h1 h2
 have h0:=Geom.first_bd hg (k:=0) (by omega) (by omega)
 have hkl:0≤(i-1) / g.inodes*g.long:=Int.mul_nonneg k0 (by omega)
 have hs:((i-1) / g.inodes+1)*g.long≤g.groups*g.long:=Int.mul_le_mul_of_nonneg_right (by omega) (by omega)
 rw[Int.add_mul] at hs
 have hf:g.first ((i-1) / g.inodes)=g.first 0+(i-1) / g.inodes*g.long:=by unfold Geom.first; omega
 have hz:g.size=g.first 0+g.groups*g.long:=by rw[Geom.size_ok hg]; unfold Geom.first; omega
 unfold q1z
 omega
end
theorem q93z {S:Side} (hS:S.Ok) {i off:Int} {b:ByteArray} {ahead:List Int} (hi:S.disk.has i) (hin:inside off b.size) (ha:∀n∈ahead,1≤n∧n≤(S.deps.last:Int)) (hf:S.deps.l.length<1024):S.changeC i off b ahead=0:=by
 have hz:=hS.size
 have hi':=hi
 unfold Disk.has at hi
 unfold Side.changeC Deps.addC
 rw[if_pos hi',if_pos ⟨hi.1,by omega,hin⟩,if_neg,if_neg (by omega)]
 rintro⟨n,hn,h⟩
 have:=ha n hn
 omega
theorem Side.change_disk (S:Side) (i off:Int) (b:ByteArray) (ahead:List Int):(S.change i off b ahead).disk=S.disk:=by
 unfold Side.change
 split <;> rfl
theorem Side.change_last {S:Side} {i off:Int} {b:ByteArray} {ahead:List Int} (hc:S.changeC i off b ahead=0):(S.change i off b ahead).deps.last=S.deps.last+1∧S.changeN i off b ahead=S.deps.last+1:=by
 have hd:S.deps.addC i off b ahead=0:=by
  unfold Side.changeC at hc
  split at hc
  ·exact hc
  ·exact absurd hc (by decide)
 refine⟨?_,?_⟩
 ·unfold Side.change
  rw[if_pos hc]
  unfold Deps.add
  rw[if_pos hd]
 ·unfold Side.changeN
  rw[if_pos hc]
theorem Held.elsewhere {S:Side} {g:Geom} {X Y:List Int} {r:Nat} (h:Held S g X Y r) (hr:r<1000000000) {i off:Int} {b:ByteArray} {ahead:List Int} (hc:S.changeC i off b ahead=0) (hi:∀k b,i≠q3z g k b):Held (S.change i off b ahead) g X Y (r+1):=by
 have hlk:∀k b',(S.change i off b ahead).look g k b' = S.look g k b':=fun k b'=>by
  unfold Side.look
  rw[Side.read_change h.ok hc,if_neg (Ne.symm (hi k b')),Side.change_disk]
 have hf:=change_few (S:=S) (i:=i) (off:=off) (b:=b) (ahead:=ahead) h.few h.last
 exact⟨Side.change_ok h.ok (by have:=h.last; omega),⟨fun k h0 h1=>by rw[hlk]; exact h.ti.look k h0 h1,h.ti.sub,h.ti.nodup⟩,⟨fun k h0 h1=>by rw[hlk]; exact h.tb.look k h0 h1,h.tb.sub,h.tb.nodup⟩,hf.1,hf.2⟩
theorem q164z {S:Side} (hS:S.Ok) {i:Int} (hi:S.disk.has i):(S.read i).size=64:=by
 unfold Side.read
 rw[if_pos hi]
 refine Deps.view_size hS.deps (hS.sect _ ?_)
 unfold Disk.get
 have hlt:i.toNat<S.disk.l.length:=by unfold Disk.has at hi; omega
 rw[List.getD_eq_getElem?_getD,List.getElem?_eq_getElem hlt]
 exact List.getElem_mem hlt
/-- A file whose inode is i, on a side of g's disk. -/
structure Bm (g:Geom) (i:Int) (S:Side) (F:File) (X Y:List Int) (r:Nat):Prop where
 held:Held S g X Y r
 file:FileOk S.read (q1z g i) F
 own:∀b∈F.all,b∈Y
 dlen:S.disk.l.length=g.size.toNat
section
variable {g:Geom} {i:Int} {S:Side} {F:File} {X Y:List Int} {r:Nat}
theorem Bm.has (h:Bm g i S F X Y r) {j:Int} (h0:0≤j) (h1:j<g.size):S.disk.has j:=⟨h0,by rw[h.dlen]; omega⟩
theorem Held.blk {S:Side} (h:Held S g X Y r) {b:Int} (hb:b∈Y):∃k p:Int,(0≤k∧k<g.groups)∧(0≤p∧p<g.blocks)∧b=q2z g k p:=h.tb.sub b hb
theorem Bm.hasB (h:Bm g i S F X Y r) (hg:g.ok) {b:Int} (hb:b∈Y):S.disk.has b:=by
 obtain⟨k,p,hk,hp,rfl⟩:=h.held.blk hb
 have:=q67z hg hk hp
 exact h.has this.1 this.2.1
theorem Bm.sized (h:Bm g i S F X Y r) (hg:g.ok):Sized S.read F:=fun b hb=>q164z h.held.ok (h.hasB hg (h.own b hb))
theorem Bm.data (h:Bm g i S F X Y r) (hg:g.ok) (hr:r<1024) {q:Nat} (hq:q<40) (h0:F.blocks[q]'(by rw[h.file.len]; exact hq)≠0) {off:Nat} {x:ByteArray} (hx:off+x.size≤64) (hx1:1≤x.size) {ahead:List Int} (ha:∀n∈ahead,1≤n∧n≤(S.deps.last:Int)) :
 S.changeC (F.blocks[q]'(by rw[h.file.len]; exact hq)) off x ahead=0∧Bm g i (S.change (F.blocks[q]'(by rw[h.file.len]; exact hq)) off x ahead) F X Y (r+1) ∧
  F.img (S.change (F.blocks[q]'(by rw[h.file.len]; exact hq)) off x ahead).read=q5z (F.img S.read) (64*q+off) x.data.toList:=by
 obtain⟨b,hb⟩:=zx (F.blocks[q]'(by rw[h.file.len]; exact hq))
 have hmem:b∈F.all:=q6z.2 ⟨Or.inr (hb ▸ List.getElem_mem _),hb ▸ h0⟩
 have hY:=h.own b hmem
 have hc:S.changeC b off x ahead=0:=q93z h.held.ok (h.hasB hg hY) (by unfold inside; omega) ha (by have:=h.held.few; omega)
 have hd:=h.file.data (h.sized hg) hq h0 (off:=off) (x:=x.data.toList) hx
 rw[hb] at hd ⊢
 have hrd:(S.change b off x ahead).read=upd S.read b off x.data.toList:=by
  have:=q99z h.held.ok hc
  rw[Int.toNat_natCast] at this
  exact this
 obtain⟨k,p,hk,hp,hbp⟩:=h.held.blk hY
 refine⟨hc,⟨h.held.elsewhere (by omega) hc (fun k' b'=>by rw[hbp]; exact q51z hg hp k' b'),by rw[hrd]; exact hd.1,h.own,by rw[Side.change_disk]; exact h.dlen⟩,?_⟩
 rw[hrd]
 exact hd.2.1
theorem Bm.other (h:Bm g i S F X Y r) (hr:r<1024) {j off:Int} {x:ByteArray} {ahead:List Int} (hc:S.changeC j off x ahead=0) (hm:∀k b,j≠q3z g k b) (hj:j≠q1z g i) (hk:j∉F.all) :
 Bm g i (S.change j off x ahead) F X Y (r+1)∧F.img (S.change j off x ahead).read=F.img S.read:=by
 have hrd:=q99z h.held.ok hc
 have he:=h.file.elsewhere hj hk off.toNat x.data.toList
 exact⟨⟨h.held.elsewhere (by omega) hc hm,by rw[hrd]; exact he.1,h.own,by rw[Side.change_disk]; exact h.dlen⟩,by rw[hrd]; exact he.2.1⟩
end
section
variable {g:Geom} {i:Int} {S:Side} {F:File} {X Y:List Int} {r:Nat}
theorem Bm.not_map (h:Bm g i S F X Y r) (hg:g.ok) (k:Int) (b:Bool):q3z g k b≠q1z g i∧q3z g k b∉F.all:=by
 refine⟨fun e=>q21z hg k b e.symm,fun hm=>?_⟩
 obtain⟨k',p,hk,hp,e⟩:=h.held.blk (h.own _ hm)
 exact q51z hg hp k b e.symm
theorem Bm.block (h:Bm g i S F X Y r) (hg:g.ok) (hr:r<1024) {ks:List Int} (hk:∀k∈ks,0≤k∧k<g.groups) :
 (∃N S',S.block g ks=(S',N,(S.deps.last:Int)+1,0)∧N∉Y∧(∃k p:Int,(0≤k∧k<g.groups)∧(0≤p∧p<g.blocks)∧N=q2z g k p)∧Bm g i S' F X (Y ++ [N]) (r+1)∧F.img S'.read=F.img S.read∧S'.deps.last=S.deps.last+1) ∨
 (S.block g ks=(S,0,0,109)∧∀k∈ks,∀p:Nat,(p:Int)<g.blocks→q2z g k p∈Y):=by
 have hr2:S.deps.l.length<1024:=by have:=h.held.few; omega
 have ht:S.take g true ks=S.takeL g true ks:=if_pos (wrongC_zero hg hk)
 rcases takeL_cases h.held.tb (q48z hg) hg h.held.ok hr2 ks hk with ⟨k,hkk,p,hp,hx,S',h1,h2,h3,s,h4⟩ | ⟨h1,h2⟩
 ·have hb:S.block g ks=(S',q2z g k p,(S.deps.last:Int)+1,0):=by
   unfold Side.block
   rw[ht,h1]
   exact if_pos rfl
  subst h2
  obtain⟨n1,n2⟩:=h.not_map hg k true
  have hrd:=q99z h.held.ok h3
  have he:=h.file.elsewhere n1 n2 ((p:Nat):Int).toNat oneB.data.toList
  have hf:=change_few (S:=S) (i:=q3z g k true) (off:=p) (b:=oneB) (ahead:=[]) h.held.few h.held.last
  have hl:=Side.change_last h3
  have hkr:=hk k hkk
  exact Or.inl ⟨_,_,hb,hx,⟨k,p,hkr,⟨by omega,hp⟩,rfl⟩,
   ⟨⟨Side.change_ok h.held.ok (by have:=h.held.last; omega),h.held.ti.other hg h.held.ok (by decide) h4 hp (Or.inr rfl) h3,h.held.tb.more (q48z hg) hg h.held.ok hkr h4 hp h3 hx,hf.1,hf.2⟩,by rw[hrd]; exact he.1,fun b hb=>List.mem_append_left _ (h.own b hb),by rw[Side.change_disk]; exact h.dlen⟩,by rw[hrd]; exact he.2.1,hl.1⟩
 ·refine Or.inr ⟨?_,h2⟩
  unfold Side.block
  rw[ht,h1]
  exact if_neg (fun h=>absurd (show(109:Int)=0 from h) (by decide))
theorem whole {l x:List UInt8} (h:l.length=64) (hx:x.length=64):q5z l 0 x=x:=by
 unfold q5z
 rw[List.take_zero,List.nil_append,Nat.zero_add,List.drop_of_length_le (by omega),List.append_nil]
theorem Bm.fill (h:Bm g i S F X Y r) (hg:g.ok) (hr:r<1024) {N:Int} (hN:N∈Y) (hn:N∉F.all) {x:ByteArray} (hx:x.size=64) {ahead:List Int} (ha:∀n∈ahead,1≤n∧n≤(S.deps.last:Int)) :
 S.changeC N 0 x ahead=0∧Bm g i (S.change N 0 x ahead) F X Y (r+1)∧F.img (S.change N 0 x ahead).read=F.img S.read∧(S.change N 0 x ahead).read N=x:=by
 have hc:S.changeC N 0 x ahead=0:=q93z h.held.ok (h.hasB hg hN) (by unfold inside; omega) ha (by have:=h.held.few; omega)
 obtain⟨k,p,hk,hp,e⟩:=h.held.blk hN
 have ho:=h.other hr hc (fun k' b'=>by rw[e]; exact q51z hg hp k' b') (by rw[e]; exact fun e2=>q27z hg hp e2.symm) hn
 refine⟨hc,ho.1,ho.2,?_⟩
 rw[q99z h.held.ok hc,upd_same]
 have h1:(S.read N).data.toList.length=64:=q164z h.held.ok (h.hasB hg hN)
 have h2:x.data.toList.length=64:=hx
 show ofL (q5z _ 0 _)=x
 rw[whole h1 h2,q133z]
theorem putB2 (b:Int):(putB 2 b).data.toList=textL 2 b.toNat∧(putB 2 b).size=2:=⟨putB_two b,by rw[Lib.size_eq,putB_two,q16z]⟩
theorem Bm.inode_in (h:Bm g i S F X Y r) (hg:g.ok) (h1:1≤i) (h2:i≤g.groups*g.inodes):S.disk.has (q1z g i):=by
 have:=q65z hg h1 h2
 exact h.has this.1 this.2
def q7z (g:Geom) (i:Int) (F:File) (q:Nat):Int:=if q<8 then q1z g i else F.more
def q9z (q:Nat):Nat:=if q<8 then 8+2*q else 2*(q-8)
theorem Bm.point (h:Bm g i S F X Y r) (hg:g.ok) (h1:1≤i) (h2:i≤g.groups*g.inodes) (hr:r<1024) {q:Nat} (hq:q<40) {b:Int} (hb:b=0∨(b∈Y∧b∉F.all)) (hm:8≤q→F.more≠0) {ahead:List Int} (ha:∀n∈ahead,1≤n∧n≤(S.deps.last:Int)) :
 S.changeC (q7z g i F q) (q9z q) (putB 2 b) ahead=0∧Bm g i (S.change (q7z g i F q) (q9z q) (putB 2 b) ahead) { F with blocks:=F.blocks.set q b } X Y (r+1) ∧
  ({ F with blocks:=F.blocks.set q b }:File).img (S.change (q7z g i F q) (q9z q) (putB 2 b) ahead).read=q5z (F.img S.read) (64*q) (secL S.read b):=by
 have hq2:q<F.blocks.length:=by rw[h.file.len]; exact hq
 have hmm:8≤q→F.more∈F.all:=fun h8=>q6z.2 ⟨Or.inl rfl,hm h8⟩
 have hsec:S.disk.has (q7z g i F q):=by
  unfold q7z
  split
  ·exact h.inode_in hg h1 h2
  ·exact h.hasB hg (h.own _ (hmm (by omega)))
 have hc:S.changeC (q7z g i F q) (q9z q) (putB 2 b) ahead=0:=q93z h.held.ok hsec (by unfold inside q9z; rw[(putB2 b).2]; split <;> omega) ha (by have:=h.held.few; omega)
 have hnm:∀k b',q7z g i F q≠q3z g k b':=fun k b'=>by
  unfold q7z
  split
  ·exact q21z hg k b'
  ·exact fun e=>(h.not_map hg k b').2 (e ▸ hmm (by omega))
 have hbj:b=0∨(b∉F.all∧b≠q1z g i):=hb.imp_right fun hh=>⟨hh.2,by
  obtain⟨k,p,hk,hp,e⟩:=h.held.blk hh.1
  rw[e]
  exact fun e2=>q27z hg hp e2.symm⟩
 have hrd:(S.change (q7z g i F q) (q9z q) (putB 2 b) ahead).read=upd S.read (if q<8 then q1z g i else F.more) (if q<8 then 8+2*q else 2*(q-8)) (textL 2 b.toNat):=by
  have:=q99z h.held.ok hc
  rw[Int.toNat_natCast,(putB2 b).1] at this
  exact this
 have hp:=h.file.point hq b hbj hm
 refine⟨hc,⟨h.held.elsewhere (by omega) hc hnm,by rw[hrd]; exact hp,fun x hx=>?_,by rw[Side.change_disk]; exact h.dlen⟩,?_⟩
 ·rcases(set_all hq2 b h.file.nod (hbj.imp_right fun h=>h.1)).2 x hx with e | hx'
  ·rcases hb with h0 | ⟨hY,_⟩
   ·rw[e,h0] at hx
    exact absurd rfl (q6z.1 hx).2
   ·rw[e]; exact hY
  ·exact h.own x hx'
 ·rw[hrd,img_same]
  ·exact img_point h.file (h.sized hg) hq (hb.imp_right fun hh=>q164z h.held.ok (h.hasB hg hh.1))
  ·have hset:∀x∈F.blocks.set q b,x=b∨x∈F.blocks:=fun x hx=>(List.mem_or_eq_of_mem_set hx).symm
   split
   ·left
    intro hx
    rcases hset _ hx with e | hx'
    ·rcases hbj with h0 | ⟨_,hne⟩
     ·have:=q65z hg h1 h2
      have hf:=Geom.first_bd hg (k:=0) (by omega) (by omega)
      obtain⟨_,⟨k0,k1⟩,⟨p0,p1⟩,_⟩:=inodeC_no hg h1 h2
      have hl:=Geom.long_bd hg
      have hkl:0≤(i-1) / g.inodes*g.long:=Int.mul_nonneg k0 (by omega)
      have hfk:g.first ((i-1) / g.inodes)=g.first 0+(i-1) / g.inodes*g.long:=by unfold Geom.first; omega
      unfold q1z at e
      omega
     ·exact hne e.symm
    ·by_cases h0:q1z g i=0
     ·have hf:=Geom.first_bd hg (k:=0) (by omega) (by omega)
      obtain⟨_,⟨k0,k1⟩,⟨p0,p1⟩,_⟩:=inodeC_no hg h1 h2
      have hl:=Geom.long_bd hg
      have hkl:0≤(i-1) / g.inodes*g.long:=Int.mul_nonneg k0 (by omega)
      have hfk:g.first ((i-1) / g.inodes)=g.first 0+(i-1) / g.inodes*g.long:=by unfold Geom.first; omega
      unfold q1z at h0
      omega
     ·exact h.file.apart (q6z.2 ⟨Or.inr hx',h0⟩)
   ·rename_i h8
    left
    intro hx
    have hm8:=hm (by omega)
    rcases hset _ hx with e | hx'
    ·rcases hbj with h0 | ⟨hne,_⟩
     ·exact hm8 (e.trans h0)
     ·exact hne (e ▸ hmm (by omega))
    ·exact h.file.more_apart hm8 hx'
theorem Bm.setSize (h:Bm g i S F X Y r) (hg:g.ok) (h1:1≤i) (h2:i≤g.groups*g.inodes) (hr:r<1024) (z:Int) {ahead:List Int} (ha:∀n∈ahead,1≤n∧n≤(S.deps.last:Int)) :
 S.changeC (q1z g i) 2 (putB 2 z) ahead=0∧Bm g i (S.change (q1z g i) 2 (putB 2 z) ahead) { F with size:=z } X Y (r+1)∧({ F with size:=z }:File).img (S.change (q1z g i) 2 (putB 2 z) ahead).read=F.img S.read:=by
 have hc:S.changeC (q1z g i) 2 (putB 2 z) ahead=0:=q93z h.held.ok (h.inode_in hg h1 h2) (by unfold inside; rw[(putB2 z).2]; omega) ha (by have:=h.held.few; omega)
 have hrd:(S.change (q1z g i) 2 (putB 2 z) ahead).read=upd S.read (q1z g i) 2 (textL 2 z.toNat):=by
  have:=q99z h.held.ok hc
  rw[(putB2 z).1] at this
  exact this
 refine⟨hc,⟨h.held.elsewhere (by omega) hc (fun k b=>q21z hg k b),by rw[hrd]; exact h.file.setSize z,h.own,by rw[Side.change_disk]; exact h.dlen⟩,?_⟩
 rw[hrd]
 show F.img _=_
 refine img_same ?_ _ _
 by_cases h0:q1z g i=0
 ·exact Or.inr h0
 ·exact Or.inl fun hx=>h.file.apart (q6z.2 ⟨Or.inr hx,h0⟩)
theorem Bm.setMore (h:Bm g i S F X Y r) (hg:g.ok) (h1:1≤i) (h2:i≤g.groups*g.inodes) (hr:r<1024) {m:Int} (h0:m=0→F.blocks.drop 8=List.replicate 32 0) (hm:m≠0→m∈Y∧m∉F.blocks∧S.read m=listB (F.blocks.drop 8)) {ahead:List Int} (ha:∀n∈ahead,1≤n∧n≤(S.deps.last:Int)) :
 S.changeC (q1z g i) 24 (putB 2 m) ahead=0∧Bm g i (S.change (q1z g i) 24 (putB 2 m) ahead) { F with more:=m } X Y (r+1)∧({ F with more:=m }:File).img (S.change (q1z g i) 24 (putB 2 m) ahead).read=F.img S.read:=by
 have hc:S.changeC (q1z g i) 24 (putB 2 m) ahead=0:=q93z h.held.ok (h.inode_in hg h1 h2) (by unfold inside; rw[(putB2 m).2]; omega) ha (by have:=h.held.few; omega)
 have hrd:(S.change (q1z g i) 24 (putB 2 m) ahead).read=upd S.read (q1z g i) 24 (textL 2 m.toNat):=by
  have:=q99z h.held.ok hc
  rw[(putB2 m).1] at this
  exact this
 have hmi:m≠0→m≠q1z g i:=fun hm0=>by
  obtain⟨k,p,hk,hp,e⟩:=h.held.blk (hm hm0).1
  rw[e]
  exact fun e2=>q27z hg hp e2.symm
 refine⟨hc,⟨h.held.elsewhere (by omega) hc (fun k b=>q21z hg k b),by rw[hrd]; exact h.file.setMore m h0 (fun hm0=>⟨(hm hm0).2.1,hmi hm0,(hm hm0).2.2⟩),fun x hx=>?_,by rw[Side.change_disk]; exact h.dlen⟩,?_⟩
 ·obtain⟨hx1,hx0⟩:=q6z.1 hx
  rcases hx1 with e | hx1
  ·have e:x=m:=e
   rw[e]
   exact(hm (e ▸ hx0)).1
  ·exact h.own x (q6z.2 ⟨Or.inr hx1,hx0⟩)
 ·rw[hrd]
  show F.img _=_
  refine img_same ?_ _ _
  by_cases h0:q1z g i=0
  ·exact Or.inr h0
  ·exact Or.inl fun hx=>h.file.apart (q6z.2 ⟨Or.inr hx,h0⟩)
end
theorem patch_two {l x y:List UInt8} {a:Nat} (h:a+x.length+y.length≤l.length):q5z (q5z l a x) (a+x.length) y=q5z l a (x ++ y):=by
 have ht:(l.take a ++ x).length=a+x.length:=by rw[List.length_append,List.length_take]; omega
 unfold q5z
 rw[List.take_left' ht,List.length_append,←List.append_assoc (l.take a) x y]
 congr 1
 rw[←List.drop_drop,List.drop_left' ht,List.drop_drop,Nat.add_assoc]
theorem patch_in {l x:List UInt8} {a off:Nat} (ha:a+64≤l.length) (h:off+x.length≤64):q5z l a (q5z ((l.drop a).take 64) off x)=q5z l (a+off) x:=by
 have hm:((l.drop a).take 64).length=64:=by rw[List.length_take,List.length_drop]; omega
 have hp:(q5z ((l.drop a).take 64) off x).length=64:=by rw[q50z (by omega)]; exact hm
 unfold q5z at hp ⊢
 rw[hp]
 have e1:l.take (a+off)=l.take a ++ (l.drop a).take off:=List.take_add
 have e2:((l.drop a).take 64).take off=(l.drop a).take off:=by rw[List.take_take]; congr 1; omega
 have e3:((l.drop a).take 64).drop (off+x.length)=((l.drop a).drop (off+x.length)).take (64-(off+x.length)):=List.drop_take ..
 have e4:l.drop (a+off+x.length)=((l.drop a).drop (off+x.length)).take (64-(off+x.length)) ++ l.drop (a+64):=by
  have:l.drop (a+64)=((l.drop a).drop (off+x.length)).drop (64-(off+x.length)):=by
   rw[List.drop_drop,List.drop_drop]
   congr 1
   omega
  rw[this,List.take_append_drop,List.drop_drop]
  congr 1
  omega
 rw[e1,e2,e3,e4]
 simp only[List.append_assoc]
section
variable {V:Int→ByteArray} {j:Int} {F:File}
theorem img_sec (h:FileOk V j F) (hz:Sized V F) {q:Nat} (hq:q<40):((F.img V).drop (64*q)).take 64=secL V (F.blocks[q]'(by rw[h.len]; exact hq)):=by
 have hq2:q<F.blocks.length:=by rw[h.len]; exact hq
 have hl:((F.blocks.take q).flatMap (secL V)).length=64*q:=by
  rw[q185z _ _ (fun x hx=>q107z hz (List.mem_of_mem_take hx)),List.length_take]
  congr 1
  omega
 unfold File.img
 rw[flat_getI _ hq2,List.drop_left' hl,List.take_left' (q107z hz (List.getElem_mem hq2))]
theorem img_new (h:FileOk V j F) (hz:Sized V F) {q:Nat} (hq:q<40) (h0:F.blocks[q]'(by rw[h.len]; exact hq)=0) {off:Nat} {x:List UInt8} (hx:off+x.length≤64):q5z (F.img V) (64*q) (q5z (zeros 64) off x)=q5z (F.img V) (64*q+off) x:=by
 have hs:=img_sec h hz hq
 rw[h0] at hs
 have hz0:secL V 0=zeros 64:=if_pos rfl
 rw[hz0] at hs
 rw[←hs]
 exact patch_in (by rw[q124z h hz]; omega) hx
end
section
variable {g:Geom} {i:Int} {S:Side} {F:File} {X Y:List Int} {r:Nat}
theorem Bm.fresh (h:Bm g i S F X Y r) (hg:g.ok) (hr:r+1<1024) {ks:List Int} (hk:∀k∈ks,0≤k∧k<g.groups) (hroom:∃k∈ks,∃p:Nat,(p:Int)<g.blocks∧q2z g k p∉Y) {x:ByteArray} (hx:x.size=64) :
 ∃N S1,S.block g ks=(S1,N,(S.deps.last:Int)+1,0)∧S1.Ok∧S1.deps.last=S.deps.last+1∧N∉Y∧N≠0∧S1.changeC N 0 x [(S.deps.last:Int)+1]=0∧S1.changeN N 0 x [(S.deps.last:Int)+1]=(S.deps.last:Int)+2 ∧
  Bm g i (S1.change N 0 x [(S.deps.last:Int)+1]) F X (Y ++ [N]) (r+2)∧F.img (S1.change N 0 x [(S.deps.last:Int)+1]).read=F.img S.read∧(S1.change N 0 x [(S.deps.last:Int)+1]).read N=x∧(S1.change N 0 x [(S.deps.last:Int)+1]).deps.last=S.deps.last+2:=by
 rcases h.block hg (by omega) hk with ⟨N,S1,h1,h2,⟨k,p,hkk,hpp,hN⟩,h3,h4,h5⟩ | ⟨_,hall⟩
 ·have hf:=h3.fill hg (by omega) (N:=N) (List.mem_append_right _ (List.mem_singleton.2 rfl)) (fun hm=>h2 (h.own _ hm)) hx (ahead:=[(S.deps.last:Int)+1]) (fun n hn=>by rw[List.mem_singleton] at hn; omega)
  have hl:=Side.change_last hf.1
  have hb0:N≠0:=by
   have hbk:=q67z hg hkk hpp
   have hf0:=Geom.first_bd hg (k:=0) (by omega) (by omega)
   have hlg:=Geom.long_bd hg
   have hkl:0≤k*g.long:=Int.mul_nonneg hkk.1 (by omega)
   have hi:=hg.2.2.1
   rw[hN]
   unfold q2z
   have hfk:g.first k=g.first 0+k*g.long:=by unfold Geom.first; omega
   omega
  refine⟨N,S1,h1,h3.held.ok,h5,h2,hb0,hf.1,?_,hf.2.1,hf.2.2.1.trans h4,hf.2.2.2,?_⟩
  ·rw[hl.2]; omega
  ·rw[hl.1]; omega
 ·obtain⟨k,hkk,p,hp,hx⟩:=hroom
  exact absurd (hall k hkk p hp) hx
theorem Bm.free (h:Bm g i S F X Y r) (hg:g.ok) (hr:r<1024) {b:Int} (hb:b∈Y) (hn:b∉F.all) {ahead:List Int} (ha:∀n∈ahead,1≤n∧n≤(S.deps.last:Int)) :
 ∃S',S.freeBlock g b ahead=(S',(S.deps.last:Int)+1,0)∧Bm g i S' F X (Y.filter (fun x=>decide (x≠b))) (r+1)∧F.img S'.read=F.img S.read∧S'.deps.last=S.deps.last+1:=by
 obtain⟨k,p,hk,hp,rfl⟩:=h.held.blk hb
 obtain⟨hb0,hb1,hkd⟩:=q67z hg hk hp
 have hc:q43z g (q2z g k p)=0:=by
  unfold q43z
  rw[if_pos hg,if_neg (by omega),hkd,if_pos rfl]
 have hbk:0<g.blocks:=hg.2.2.2.2.1
 obtain⟨q,rfl⟩:∃q:Nat,p=(q:Int):=⟨p.toNat,by omega⟩
 have e1:(k*g.blocks+(q:Int)) / g.blocks=k:=by rw[Int.add_comm,Int.add_mul_ediv_right _ _ (by omega),Int.ediv_eq_zero_of_lt hp.1 hp.2]; omega
 have e2:(k*g.blocks+(q:Int)) % g.blocks=q:=by rw[Int.add_comm,Int.add_mul_emod_self_right,Int.emod_eq_of_lt hp.1 hp.2]
 obtain⟨s,hs,hbits⟩:=h.held.tb.look k hk.1 hk.2
 have hbit:=hbits q hp.2
 rw[if_pos hb] at hbit
 have hls:=q70z hs
 have hm:=q42z hls.2.2
 have h3:S.changeC (q3z g k true) q zeroB ahead=0:=q93z h.held.ok hls.1 (by unfold inside; show 0≤(q:Int)∧0<((1:Nat):Int)∧((1:Nat):Int)≤64∧(q:Int)≤64-((1:Nat):Int); have:(q:Int)<manyG g true:=hp.2; omega) ha (by have:=h.held.few; omega)
 have hl:=Side.change_last h3
 refine⟨S.change (q3z g k true) q zeroB ahead,?_,?_,?_,hl.1⟩
 ·unfold Side.freeBlock
  rw[if_pos hc,hkd]
  dsimp only
  rw[e1,e2]
  unfold Side.give
  rw[hs]
  dsimp only
  rw[if_pos ⟨hp.1,hp.2,hbit⟩,h3,hl.2]
 ·obtain⟨n1,n2⟩:=h.not_map hg k true
  have hrd:=q99z h.held.ok h3
  have he:=h.file.elsewhere n1 n2 ((q:Nat):Int).toNat zeroB.data.toList
  have hf:=change_few (S:=S) (i:=q3z g k true) (off:=q) (b:=zeroB) (ahead:=ahead) h.held.few h.held.last
  exact⟨⟨Side.change_ok h.held.ok (by have:=h.held.last; omega),h.held.ti.other hg h.held.ok (by decide) hs hp.2 (Or.inl rfl) h3,h.held.tb.less (q48z hg) hg h.held.ok hk hs hp.2 h3,hf.1,hf.2⟩,by rw[hrd]; exact he.1,fun x hx=>List.mem_filter.2 ⟨h.own x hx,decide_eq_true (fun e=>hn (e ▸ hx))⟩,by rw[Side.change_disk]; exact h.dlen⟩
 ·obtain⟨n1,n2⟩:=h.not_map hg k true
  have hrd:=q99z h.held.ok h3
  rw[hrd]
  exact(h.file.elsewhere n1 n2 _ _).2.1
end
