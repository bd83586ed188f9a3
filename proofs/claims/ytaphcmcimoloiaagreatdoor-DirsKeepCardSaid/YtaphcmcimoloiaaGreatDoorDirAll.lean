/-
 Walks of layer 17: all (an iterator over a directory's slots).
-/
import Derived.Test.YtaphcmcimoloiaaGreatDoorDirPut
import Derived.RangeFuncBox
namespace Go.Proofs.YtaphcmcimoloiaaGreatDoor
open Go Go.RowKit Go.Shelf Txt Sp
attribute [local go_sem] Oper.semAt_some
def entV (e:Ent):Array Value:=#[.agg #[.int .i64 e.inode,.int .i64 e.sec,.int .i64 (e.slot:Int)],.string e.name]
def q133z (n Bd:Nat) (A B:World):Prop:=Below n A B∧(Bd<A.heap.size→B.heap[Bd]? = A.heap[Bd]?)
theorem keepsBox_t {n Bd:Nat} {A B C:World} (h:q133z n Bd A B) (k:q133z n Bd B C):q133z n Bd A C:=
 ⟨h.1.trans k.1,fun hb=>(k.2 (by have:=h.1.size; omega)).trans (h.2 hb)⟩
theorem keepsBox_b {n Bd:Nat} {w:World} (hn:n≤w.heap.size) (hB:Bd<w.heap.size) (W:World) (l:Nat) (o o':Obj) (hl:w.heap.size≤l) (h:W.heap[l]? = some o) (h1:o.isCells=false) (h2:o.isWalk=false):q133z n Bd W (W.putObj l o'):=
 ⟨belowK_b hn W l o o' hl h h1 h2,fun hb=>(grownBy_putObj' W l o').block Bd hb (fun e=>by cases e; omega)⟩
theorem index_ent (E:Nat→Sp.Entry) (W:World) (k:Nat) (hk:k<4):(Instr.index 282 (.agg #[.int .i64 (E 0).inode,.string (E 0).name,.int .i64 (E 1).inode,.string (E 1).name,.int .i64 (E 2).inode,.string (E 2).name,.int .i64 (E 3).inode,.string (E 3).name]) (.int .i64 (k:Int))).run Tryz.prog W = .ok (.agg #[.int .i64 (E k).inode,.string (E k).name]) W:=by
 have h0:(Instr.index 282 (.agg #[.int .i64 (E 0).inode,.string (E 0).name,.int .i64 (E 1).inode,.string (E 1).name,.int .i64 (E 2).inode,.string (E 2).name,.int .i64 (E 3).inode,.string (E 3).name]) (.int .i64 0)).run Tryz.prog W = .ok (.agg #[.int .i64 (E 0).inode,.string (E 0).name]) W:=by kernel_rfl
 have h1:(Instr.index 282 (.agg #[.int .i64 (E 0).inode,.string (E 0).name,.int .i64 (E 1).inode,.string (E 1).name,.int .i64 (E 2).inode,.string (E 2).name,.int .i64 (E 3).inode,.string (E 3).name]) (.int .i64 1)).run Tryz.prog W = .ok (.agg #[.int .i64 (E 1).inode,.string (E 1).name]) W:=by kernel_rfl
 have h2:(Instr.index 282 (.agg #[.int .i64 (E 0).inode,.string (E 0).name,.int .i64 (E 1).inode,.string (E 1).name,.int .i64 (E 2).inode,.string (E 2).name,.int .i64 (E 3).inode,.string (E 3).name]) (.int .i64 2)).run Tryz.prog W = .ok (.agg #[.int .i64 (E 2).inode,.string (E 2).name]) W:=by kernel_rfl
 have h3:(Instr.index 282 (.agg #[.int .i64 (E 0).inode,.string (E 0).name,.int .i64 (E 1).inode,.string (E 1).name,.int .i64 (E 2).inode,.string (E 2).name,.int .i64 (E 3).inode,.string (E 3).name]) (.int .i64 3)).run Tryz.prog W = .ok (.agg #[.int .i64 (E 3).inode,.string (E 3).name]) W:=by kernel_rfl
 match k,hk with
 | 0,_=>exact h0
 | 1,_=>exact h1
 | 2,_=>exact h2
 | 3,_=>exact h3
 | k+4,h=>omega
section
variable {V:Int→ByteArray} {bl:List Int}
def esAt (V:Int→ByteArray) (bl:List Int) (j:Nat) (b:Int) (k:Nat):List Ent:=(bl.take j).flatMap (entsB V) ++ (entsB V b).take k
theorem esAt_len {j k:Nat} {b:Int} (hb:bl[j]? = some b) (hk:k<4):(esAt V bl j b k).length<(bl.flatMap (entsB V)).length:=by
 have hj:=(List.getElem?_eq_some_iff.1 hb).1
 have e:∀l:List Int,(l.flatMap (entsB V)).length=4*l.length:=fun l=>by
  induction l with
  | nil=>rfl
  | cons x l ih=>rw[List.flatMap_cons,List.length_append,ih]; show 4+_=_; rw[List.length_cons]; omega
 unfold esAt
 rw[List.length_append,e,e,List.length_take,List.length_take]
 show 4*min j bl.length+min k 4<_
 omega
theorem esAt_next {j k:Nat} {b:Int} (hk:k<4):esAt V bl j b k ++ [entOf V b k]=esAt V bl j b (k+1):=by
 unfold esAt
 rw[List.append_assoc]
 congr 1
 match k,hk with
 | 0,_=>rfl
 | 1,_=>rfl
 | 2,_=>rfl
 | 3,_=>rfl
 | k+4,h=>omega
theorem esAt_four {j:Nat} {b:Int} (hb:bl[j]? = some b):esAt V bl j b 4=(bl.take (j+1)).flatMap (entsB V):=by
 unfold esAt
 rw[q30z hb,List.flatMap_append]
 simp[entsB]
theorem esAt_pre {j k:Nat} {b:Int} (hb:bl[j]? = some b) (hk:k≤4):esAt V bl j b k <+: bl.flatMap (entsB V):=by
 have h1:esAt V bl j b k <+: esAt V bl j b 4:=by
  unfold esAt
  rw[List.prefix_append_right_inj]
  have:=List.take_prefix k ((entsB V b).take 4)
  rw[List.take_take] at this
  rwa [Nat.min_eq_left hk] at this
 refine h1.trans ?_
 rw[esAt_four hb]
 conv=>rhs; rw[←List.take_append_drop (j+1) bl,List.flatMap_append]
 exact List.prefix_append _ _
end
def q64z (w0:World) (Bd B:Nat) (z:Nat) (J:List Ent→World→Prop) (es:List Ent) (W:World):Prop:=
 Below w0.heap.size w0 W∧W.heap[Bd]? = some (.cells #[.pointer (some ⟨B,0,none⟩)] 180 (0,0))∧z≤W.heap.size∧J es W
section
variable {w0 W W':World} {Bd B z:Nat} {J:List Ent→World→Prop} {es:List Ent}
theorem q64z.alloc (h:q64z w0 Bd B z J es W) (hJ:AbidesFrom z J) (o:Obj):q64z w0 Bd B z J es (W.alloc o):=
 ⟨h.1.alloc h.1.size o,q1z (bl2 o) h.2.1,by simp; have:=h.2.2.1; omega,hJ es W _ none h.2.2.2 (World.grownBy_alloc W o none) (fun r e=>by cases e)⟩
theorem q64z.drew (h:q64z w0 Bd B z J es W) (hJ:AbidesFrom z J):q64z w0 Bd B z J es W.drew:=
 ⟨h.1.drew,h.2.1,h.2.2.1,hJ es W _ none h.2.2.2 ⟨rfl,rfl,rfl,Nat.le_refl _,fun _ _ _=>rfl⟩ (fun r e=>by cases e)⟩
theorem q64z.round (h:q64z w0 Bd B z J es W) (hk:q133z w0.heap.size Bd W W') {es':List Ent} (hJ:J es' W'):q64z w0 Bd B z J es' W':=
 ⟨h.1.trans hk.1,(hk.2 (Array.getElem?_eq_some_iff.1 h.2.1).1).trans h.2.1,by have:=hk.1.size; have:=h.2.2.1; omega,hJ⟩
end
section
set_option maxHeartbeats 4000000
set_option maxRecDepth 100000
theorem dall1_in (F:Fence) (n:Nat) (hf:F.fn 186) (hro:F.round=none) (hn:1≤n) (y Bd B base:Nat) (nd:Sp.Inode) (V:Int→ByteArray) (bl:List Int) (J Jx:List Ent→World→Prop) (w0 W:World) (hJ:AbidesFrom W.heap.size J)
 (hY:∀pre x W1,J pre W1→pre.length<(bl.flatMap (entsB V)).length→YieldAt F (n-1) Tryz.prog y (entV x) W1 fun e W'=>(e = .returned (.bool true)∧J (pre ++ [x]) W'∧q133z w0.heap.size Bd W1 W')∨(e = .returned (.bool false)∧Jx (pre ++ [x]) W'))
 (hd:DirAt w0 base B nd V bl) (hW:Below w0.heap.size w0 W) (hm:W.heap[Bd]? = some (.cells #[.pointer (some ⟨B,0,none⟩)] 180 (0,0))) (h0:J [] W) :
 CallsIn F n Tryz.prog 186 #[.func (.yield y) #[] #[],.pointer (some ⟨Bd,0,none⟩)] W fun e W'=>(∃v,e = .returned v)∧((∃xs,xs=bl.flatMap (entsB V)∧J xs W')∨(∃pre,pre <+: bl.flatMap (entsB V)∧Jx pre W')):=by
 obtain⟨-,vs,us,hz,hvs,hus⟩:=hd
 have hrv:=OwnR.row (f:=intC) (size:=1) (fun _ _=>rfl) hvs
 have hru:=OwnR.row (f:=slotC) (size:=8) (fun _ _=>rfl) hus
 obtain⟨av,mv,cv,rfl,HMv,hmv,-⟩:=RowAt.facts hrv
 obtain⟨au,mu,cu,rfl,HMu,hmu,-⟩:=RowAt.facts hru
 have hlv:mv=bl.length:=HMv.out
 have hlu:mu=bl.length:=HMu.out.trans (List.length_map _)
 have hF:Hid (∀W1,Below w0.heap.size w0 W1→(W1.cell? ⟨B,14,none⟩=some (.slice av mv cv)∧W1.cell? ⟨B,15,none⟩=some (.slice au mu cu))∧∀(j:Nat) (b:Int),bl[j]? = some b→(∃bb oo,av=some ⟨bb,oo,none⟩∧W1.cell? ⟨bb,oo+j,none⟩=some (.int .i64 b)) ∧
  ∃bb oo,au=some ⟨bb,oo,none⟩∧∀(i:Nat) (y:Value),(slotC (V b))[i]? = some y→W1.cell? ⟨bb,oo+j*8+i,none⟩=some y):=fun W1 h1=>by
  have hz1:=q1z h1 hz
  refine⟨⟨cellOf (k:=14) hz1 rfl,cellOf (k:=15) hz1 rfl⟩,fun j b hb=>?_⟩
  have hj:=(List.getElem?_eq_some_iff.1 hb).1
  constructor
  ·obtain⟨ad',n',cap',e',hn',-,hf'⟩:=RowAt.facts (hrv.below h1)
   cases e'
   obtain⟨bb,oo,x,rfl,-,hx,hc⟩:=hf'.out j (by rw[hlv]; exact hj)
   rw[hb] at hx
   cases hx
   have:=hc 0 _ rfl
   rw[Nat.mul_one,Nat.add_zero] at this
   exact⟨bb,oo,rfl,this⟩
  ·obtain⟨ad',n',cap',e',hn',-,hf'⟩:=RowAt.facts (hru.below h1)
   cases e'
   obtain⟨bb,oo,x,rfl,-,hx,hc⟩:=hf'.out j (by rw[hlu]; exact hj)
   rw[List.getElem?_map,hb] at hx
   cases hx
   exact⟨bb,oo,rfl,hc⟩
 subst hlv
 have hlu2:(mu:Int)=(bl.length:Int):=by omega
 obtain⟨m,hmE⟩:∃m,bl.length=m:=⟨_,rfl⟩
 rw[hmE] at hlu hF hmv
 subst hlu
 have HmE:=Lib.hid hmE
 have HI0:Hid (q64z w0 Bd B W.heap.size J [] W):=⟨hW,hm,Nat.le_refl _,h0⟩
 have HJ:=Lib.hid hJ
 have HY:=Lib.hid hY
 obtain⟨⟨x14,x15⟩,-⟩:=hF.out W hW
 have xb:=cellOf (k:=0) hm rfl
 clear hmE hlu2 HMv HMu hvs hus hrv hru hz hJ hY hW hm h0
 refine callsIn_of_wp Tryz.func186 rfl hf ?_ hro
 simp only[Tryz.ntmps186,List.size_toArray,List.length_cons,List.length_nil,Nat.reduceAdd,Nat.reduceSub,Array.replicate_succ,Array.replicate_zero,List.push_toArray,List.append_toArray,List.nil_append,List.cons_append]
 gi_wp2
 clear x14 x15 xb
 gi_loopw [12] (fun i12 wr=>∃j:Nat,j≤mu∧i12 = .int .i64 (j:Int)∧Hid (q64z w0 Bd B W.heap.size J ((bl.take j).flatMap (entsB V)) wr)) (fun i12 _=>mu-(intOf i12).toNat)
 case atStart=>exact⟨0,Nat.zero_le _,rfl,HI0⟩
 case round=>
  obtain⟨j,hj,rfl,HR⟩:=hrel
  by_cases hlt:j<mu
  ·obtain⟨b,hb⟩:∃b,bl[j]? = some b:=⟨bl[j]'(by rw[HmE.out]; exact hlt),by rw[List.getElem?_eq_getElem]⟩
   obtain⟨-,⟨bv,ov,rfl,yv⟩,bu,ou,rfl,hyu⟩:=(hF.out wr HR.out.1).imp id (fun h=>h j b hb)
   obtain⟨E,hE⟩:∃E:Nat→Sp.Entry,(fun k=>q4z (V b) k)=E:=⟨_,rfl⟩
   have hsl:slotC (V b)=[.int .i64 (E 0).inode,.string (E 0).name,.int .i64 (E 1).inode,.string (E 1).name,.int .i64 (E 2).inode,.string (E 2).name,.int .i64 (E 3).inode,.string (E 3).name]:=by subst hE; rfl
   rw[hsl] at hyu
   have y0:=hyu 0 _ rfl
   have y1:=hyu 1 _ rfl
   have y2:=hyu 2 _ rfl
   have y3:=hyu 3 _ rfl
   have y4:=hyu 4 _ rfl
   have y5:=hyu 5 _ rfl
   have y6:=hyu 6 _ rfl
   have y7:=hyu 7 _ rfl
   have hE2:∀k,entOf V b k=⟨(E k).inode,b,k,(E k).name⟩:=fun k=>by subst hE; rfl
   have hix:=index_ent E
   have HIX:=Lib.hid hix
   have HE2:=Lib.hid hE2
   have HYu:=Lib.hid hyu
   have HYv:=Lib.hid yv
   clear hyu yv hsl hE hE2 hix
   obtain⟨e0,he0⟩:∃x,(E 0).inode=x:=⟨_,rfl⟩
   obtain⟨e1,he1⟩:∃x,(E 1).inode=x:=⟨_,rfl⟩
   obtain⟨e2,he2⟩:∃x,(E 2).inode=x:=⟨_,rfl⟩
   obtain⟨e3,he3⟩:∃x,(E 3).inode=x:=⟨_,rfl⟩
   obtain⟨s0,hs0⟩:∃x,(E 0).name=x:=⟨_,rfl⟩
   obtain⟨s1,hs1⟩:∃x,(E 1).name=x:=⟨_,rfl⟩
   obtain⟨s2,hs2⟩:∃x,(E 2).name=x:=⟨_,rfl⟩
   obtain⟨s3,hs3⟩:∃x,(E 3).name=x:=⟨_,rfl⟩
   rw[he0,he1,he2,he3,hs0,hs1,hs2,hs3] at HIX
   rw[he0,Nat.add_zero] at y0
   rw[hs0] at y1
   rw[he1] at y2
   rw[hs1] at y3
   rw[he2] at y4
   rw[hs2] at y5
   rw[he3] at y6
   rw[hs3] at y7
   clear HYu he0 he1 he2 he3 hs0 hs1 hs2 hs3
   obtain⟨W3,hW3⟩:∃W,wr.alloc (.cells #[.int .i64 e0,.string s0,.int .i64 e1,.string s1,.int .i64 e2,.string s2,.int .i64 e3,.string s3] 282)=W:=⟨_,rfl⟩
   have HR3:Hid (q64z w0 Bd B W.heap.size J (esAt V bl j b 0) W3):=by
    rw[←hW3]
    have:=HR.out.alloc HJ.out (.cells #[.int .i64 e0,.string s0,.int .i64 e1,.string s1,.int .i64 e2,.string s2,.int .i64 e3,.string s3] 282)
    unfold esAt
    rw[List.take_zero,List.append_nil]
    exact this
   have HZ3:Hid (W3.heap[wr.heap.size]? = some (.cells #[.int .i64 e0,.string s0,.int .i64 e1,.string s1,.int .i64 e2,.string s2,.int .i64 e3,.string s3] 282 (0,0))):=by rw[←hW3]; exact q2z wr _
   obtain⟨z,-⟩:=q45z HZ3.out
   gi_wp2
   clear y0 y1 y2 y3 y4 y5 y6 y7 z hW3
   gi_loopw [18] (fun i18 wr=>∃k:Nat,k≤4∧i18 = .int .i64 (k:Int)∧Hid (q64z w0 Bd B W.heap.size J (esAt V bl j b k) wr)) (fun i18 _=>4-(intOf i18).toNat)
   case atStart=>exact⟨0,Nat.zero_le _,rfl,HR3⟩
   case round=>
    obtain⟨k,hk,rfl,HRk⟩:=hrel
    by_cases hlt4:k<4
    ·have hx:=fun W=>HIX.out W k hlt4
     have hent:entV (entOf V b k)=#[.agg #[.int .i64 (E k).inode,.int .i64 b,.int .i64 (k:Int)],.string (E k).name]:=by rw[HE2.out k]; rfl
     obtain⟨x,hxe⟩:∃x,(E k).inode=x:=⟨_,rfl⟩
     obtain⟨nm,hnm⟩:∃x,(E k).name=x:=⟨_,rfl⟩
     rw[hxe,hnm] at hx hent
     rename World=>wk
     obtain⟨W4,hW4⟩:∃W,wk.alloc (.cells #[.int .i64 x,.string nm] 69)=W:=⟨_,rfl⟩
     have HR4:Hid (q64z w0 Bd B W.heap.size J (esAt V bl j b k) W4):=by rw[←hW4]; exact HRk.out.alloc HJ.out _
     have HZ4:Hid (W4.heap[wk.heap.size]? = some (.cells #[.int .i64 x,.string nm] 69 (0,0))):=by rw[←hW4]; exact q2z wk _
     have HHx:=Lib.hid hx
     have HEnt:=Lib.hid hent
     clear hent hxe hnm
     gi_wp2
     clear hW4 hx
     obtain⟨W5,hW5⟩:∃W,W4.drew=W:=⟨_,rfl⟩
     have HR5:Hid (q64z w0 Bd B W.heap.size J (esAt V bl j b k) W5):=by rw[←hW5]; exact HR4.out.drew HJ.out
     have HZ5:Hid (W5.heap[wk.heap.size]? = some (.cells #[.int .i64 x,.string nm] 69 (0,0))):=by rw[←hW5]; exact HZ4.out
     obtain⟨⟨x14,x15⟩,HC5⟩:=hF.out W5 HR5.out.1
     have xb:=cellOf (k:=0) HR5.out.2.1 rfl
     have yv:W5.cell? ⟨bv,ov+j,none⟩=some (.int .i64 b):=by
      obtain⟨⟨_,_,e,h⟩,-⟩:=HC5 j b hb
      cases e
      exact h
     have z0:=cellOf (k:=0) HZ5.out rfl
     have z1:=cellOf (k:=1) HZ5.out rfl
     clear HC5
     refine wpIn_region_last (fun w=>w=W5) 14 (by kernel_rfl) (fun hX0=>?_)
     rw[hW5]
     have hHeld:(fun w=>w=W5) W5:=rfl
     refine tkI 0 ?_; clear hX0; intro hX0; simp only[Act.put,ps0]
     refine tkI 1 ?_; clear hX0; intro hX0; simp only[Act.put,ps0]
     refine tkI 2 ?_; clear hX0; intro hX0; simp only[Act.put,ps0]
     refine tkI 3 ?_; clear hX0; intro hX0; simp only[Act.put,ps0]
     refine tkI 4 ?_; clear hX0; intro hX0; simp only[Act.put,ps0]
     refine tkI 5 ?_; clear hX0; intro hX0; simp only[Act.put,ps0]
     refine tkI 6 ?_; clear hX0; intro hX0; simp only[Act.put,ps0]
     refine tkI 7 ?_; clear hX0; intro hX0; simp only[Act.put,ps0]
     refine tkI 8 ?_; clear hX0; intro hX0; simp only[Act.put,ps0]
     refine tkI 9 ?_; clear hX0; intro hX0; simp only[Act.put,ps0]
     refine tkI 10 ?_; clear hX0; intro hX0; simp only[Act.put,ps0]
     refine tkI 11 ?_; clear hX0; intro hX0; simp only[Act.put,ps0]
     refine tkI 12 ?_; clear hX0; intro hX0; simp only[Act.put,ps0]
     refine tkI 13 ?_; clear hX0; intro hX0; simp only[Act.put,ps0]
     refine AnyI.one (i:=14) (by kernel_rfl) rfl (by kernel_rfl) (fun K hK=>?_)
     try simp only[gg0]
     clear x14 x15 xb yv z0 z1
     have hy0:=HY.out (esAt V bl j b k) (entOf V b k) W5 HR5.out.2.2.2 (esAt_len hb hlt4)
     rw[HEnt.out] at hy0
     obtain⟨fn,tmps,assign,body,hy,hR⟩:=hy0
     have HRy:=Lib.hid hR
     clear hR
     go_simp
     refine HRy.out.mono ?_
     rintro e W6 (⟨rfl,hJ6,hk6⟩ | ⟨rfl,hJx6⟩)
     ·have HR6:Hid (q64z w0 Bd B W.heap.size J (esAt V bl j b (k+1)) W6):=HR5.out.round hk6 (by rw[←esAt_next hlt4]; exact hJ6)
      clear hJ6 hk6 hy
      dsimp only
      refine hK _ _ ?_
      clear hK K
      try simp only[Act.put,ps0]
      refine AnyI.one (i:=15) (by kernel_rfl) rfl (by kernel_rfl) (fun K hK=>?_)
      try simp only[gg0]
      go_simp
      refine hK _ _ ?_
      clear hK K
      try simp only[Act.put,ps0]
      refine AnyI.done (by kernel_rfl) ?_ _
      gi_wp2
      go_roundw
      case rel=>exact⟨k+1,by omega,rfl,HR6⟩
      case measure=>simp[intOf]; omega
     ·have HX:Hid (Jx (esAt V bl j b (k+1)) W6):=by rw[←esAt_next hlt4]; exact hJx6
      clear hJx6 hy
      dsimp only
      refine hK _ _ ?_
      clear hK K
      try simp only[Act.put,ps0]
      refine AnyI.one (i:=15) (by kernel_rfl) rfl (by kernel_rfl) (fun K hK=>?_)
      try simp only[gg0]
      go_simp
      refine hK _ _ ?_
      clear hK K
      try simp only[Act.put,ps0]
      refine AnyI.done (by kernel_rfl) ?_ _
      gi_wp2
      refine bodyPost_ret (results_none rfl _ _ _) rfl ?_
      exact⟨⟨_,rfl⟩,.inr ⟨_,esAt_pre hb (by omega),HX.out⟩⟩
    ·obtain rfl:k=4:=by omega
     rename World=>wk
     have HR4:Hid (q64z w0 Bd B W.heap.size J ((bl.take (j+1)).flatMap (entsB V)) wk):=by rw[←esAt_four hb]; exact HRk.out
     gi_wp2
     go_roundw
     case rel=>exact⟨j+1,by omega,rfl,HR4⟩
     case measure=>simp[intOf]; omega
  ·obtain rfl:j=mu:=by omega
   have HX:Hid (J (bl.flatMap (entsB V)) wr):=by
    have:=HR.out.2.2.2
    rw[List.take_of_length_le (by rw[HmE.out]; exact Nat.le_refl _)] at this
    exact this
   gi_wp2
   go_end0
   exact⟨⟨_,rfl⟩,.inl ⟨_,rfl,HX.out⟩⟩
theorem dall_in (F:Fence) (n:Nat) (hf:F.fn 113) (hro:F.round=none) (B:Nat) (w:World) :
 CallsIn F n Tryz.prog 113 #[.pointer (some ⟨B,0,none⟩)] w fun e w'=>e = .returned (.func (.func 186) #[] #[.pointer (some ⟨w.heap.size,0,none⟩)])∧w' = w.alloc (.cells #[.pointer (some ⟨B,0,none⟩)] 180):=by
 refine callsIn_of_wp Tryz.func113 rfl hf ?_ hro
 simp only[Tryz.ntmps113,List.size_toArray,List.length_cons,List.length_nil,Nat.reduceAdd,Nat.reduceSub,Array.replicate_succ,Array.replicate_zero,List.push_toArray,List.append_toArray,List.nil_append,List.cons_append]
 gi_wp2
 go_ret
 exact⟨rfl,rfl⟩
theorem dall_stops (F:Fence) (n:Nat) (hf:F.fn 186) (hro:F.round=none) (hn:1≤n) (Bd B base:Nat) (nd:Sp.Inode) (V:Int→ByteArray) (bl:List Int) (w0 w:World) (hd:DirAt w0 base B nd V bl) (hW:Below w0.heap.size w0 w) (hm:w.heap[Bd]? = some (.cells #[.pointer (some ⟨B,0,none⟩)] 180 (0,0))) :
 SeqStopsK F n Tryz.prog 186 #[.pointer (some ⟨Bd,0,none⟩)] entV (q133z w0.heap.size Bd) (fun ys=>ys=bl.flatMap (entsB V)) (fun pre=>pre <+: bl.flatMap (entsB V)) (bl.flatMap (entsB V)).length w:=fun y J Jx W hB hJ _ hY h0=>
 dall1_in F n hf hro hn y Bd B base nd V bl J Jx w0 W hJ hY hd (hW.trans (hB.mono hW.size)) (q1z hB hm) h0
end
end Go.Proofs.YtaphcmcimoloiaaGreatDoor
