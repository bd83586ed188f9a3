import Derived.Test.YtmljdnlmpiklgaaGreatDoorInodeDec
namespace Go.Proofs.YtmljdnlmpiklgaaGreatDoor
open Go Go.RowKit Txt Sp
def nilE:Sp.Entry:=⟨0,⟨#[]⟩⟩
def dirL (s:ByteArray) (k:Nat):List Value:=
 [.int .i64 (if 0<k then slotOf s 0 else nilE).inode,.string (if 0<k then slotOf s 0 else nilE).name,.int .i64 (if 1<k then slotOf s 1 else nilE).inode,.string (if 1<k then slotOf s 1 else nilE).name,
  .int .i64 (if 2<k then slotOf s 2 else nilE).inode,.string (if 2<k then slotOf s 2 else nilE).name,.int .i64 (if 3<k then slotOf s 3 else nilE).inode,.string (if 3<k then slotOf s 3 else nilE).name]
theorem dirL_step (s:ByteArray):∀k,k<4→(dirL s k).take (k*2) ++ [.int .i64 (slotOf s k).inode,.string (slotOf s k).name] ++ (dirL s k).drop (k*2+2)=dirL s (k+1)
 | 0,_=>rfl
 | 1,_=>rfl
 | 2,_=>rfl
 | 3,_=>rfl
def dirA (s:ByteArray) (k:Nat):Array Value:=(dirL s k).toArray
def EDec (s:ByteArray) (w:World) (e:Ending) (w':World):Prop:=
 e = .returned (.tuple #[.agg (dirA s (if isDirS s then 4 else 0)),.int .i64 (if isDirS s then 0 else 70)])∧Below w.heap.size w w'
theorem edec_no {s:ByteArray} {w w':World} (h:¬isDirS s) (hb:Below w.heap.size w w'):EDec s w (.returned (.tuple #[.agg #[.int .i64 0,.string ⟨#[]⟩,.int .i64 0,.string ⟨#[]⟩,.int .i64 0,.string ⟨#[]⟩,.int .i64 0,.string ⟨#[]⟩],.int .i64 70])) w':=by
 refine⟨?_,hb⟩
 rw[if_neg h,if_neg h]
 rfl
theorem edec_yes {s:ByteArray} {w w':World} (h:isDirS s) (hb:Below w.heap.size w w'):EDec s w (.returned (.tuple #[.agg #[.int .i64 (slotOf s 0).inode,.string (slotOf s 0).name,.int .i64 (slotOf s 1).inode,.string (slotOf s 1).name,.int .i64 (slotOf s 2).inode,.string (slotOf s 2).name,.int .i64 (slotOf s 3).inode,.string (slotOf s 3).name],.int .i64 0])) w':=by
 refine⟨?_,hb⟩
 rw[if_pos h,if_pos h]
 rfl
theorem slot_piece {s:ByteArray} {k:Nat} (hs:s.size=64) (hk:k<4):(s.extract (k*16) (k*16+16)).data.toList=slotAt s k∧(slotAt s k).length=16:=by
 have hl:s.data.toList.length=64:=by rw[Array.length_toList]; exact hs
 constructor
 ·rw[Lib.extract_data]
  unfold slotAt
  rw[show k*16+16-k*16=16 by omega,Nat.mul_comm]
 ·unfold slotAt
  rw[List.length_take,List.length_drop,hl]
  omega
structure Piece (s:ByteArray) (k:Nat) (T:ByteArray) (c:UInt8) (N:ByteArray) (n:Int):Prop where
 size:T.size=16
 lenB:2<T.size
 byte:T[2]=c
 name:T.extract 3 (3+c.toNat)=N
 long:c.toNat≤13→N.size=c.toNat
 num:getN s ((k*16:Nat):Int) 2=n
 numB:0≤n∧n≤65535
 slot:slotOf s k=⟨n,N⟩
 ok:slotOk s k↔c.toNat≤13∧Sp.Entry.may ⟨n,N⟩∧ofL (slotL ⟨n,N⟩)=T
theorem piece_of {s:ByteArray} {k:Nat} (hs:s.size=64) (hk:k<4):∃T c N n,s.extract (k*16) (k*16+16)=T∧Piece s k T c N n:=by
 obtain⟨h1,h2⟩:=slot_piece hs hk
 obtain⟨T,hT⟩:=zx (s.extract (k*16) (k*16+16))
 rw[hT] at h1
 have hsz:T.size=16:=by
  rw[←h2,←h1]
  exact Array.length_toList.symm
 have hb:T[2]=(slotAt s k).getD 2 0:=by
  rw[←h1,List.getD_eq_getElem?_getD,List.getElem?_eq_getElem (by rw[Array.length_toList]; show 2<T.size; omega)]
  rfl
 have hc:getC s ((k*16:Nat):Int) 2=0:=by
  unfold getC
  rw[if_neg (by simp[hs]),if_pos ⟨by decide,by refine⟨by omega,by omega,by omega,by omega⟩⟩]
 have hn:getN s ((k*16:Nat):Int) 2=(numAt s (16*k) 2:Int):=by
  unfold getN
  rw[if_pos hc,Nat.mul_comm]
  rfl
 have hnb:numAt s (16*k) 2<65536:=by
  have h:=num_two (s:=s) (k:=16*k) (by omega)
  have:=UInt8.toNat_lt s[16*k]
  have:=UInt8.toNat_lt s[16*k+1]
  omega
 have hname:(slotAt s k).getD 2 0=T[2]:=hb.symm
 have hx:slotOf s k=⟨(numAt s (16*k) 2:Int),T.extract 3 (3+T[2].toNat)⟩:=by
  unfold slotOf
  rw[hname]
  congr 1
  apply Txt.ext
  rw[ofL_data,Lib.extract_data,h1,show 3+T[2].toNat-3=T[2].toNat by omega]
 refine⟨T,T[2],T.extract 3 (3+T[2].toNat),(numAt s (16*k) 2:Int),hT,⟨hsz,by omega,rfl,rfl,fun h=>?_,hn,by omega,hx,?_⟩⟩
 ·simp
  omega
 ·unfold slotOk
  rw[hname,hx]
  refine and_congr Iff.rfl (and_congr Iff.rfl ?_)
  rw[←h1]
  constructor
  ·intro h
   apply Txt.ext
   rw[ofL_data]
   exact h
  ·intro h
   have h2:=congrArg (fun x:ByteArray=>x.data.toList) h
   simp only[ofL_data] at h2
   exact h2
def q58z (w wr:World) (s:ByteArray) (k:Nat):Prop:=
 slotsTo s k∧wr.heap[w.heap.size]? = some (.cells (dirA s 0) 155 (0,0))∧wr.heap[w.heap.size+1]? = some (.cells (dirA s k) 155 (0,0))∧wr.heap[w.heap.size+1+1]? = some (.cells (dirA s 0) 155 (0,0)) ∧
  (∃l,BM.MapAt wr (w.heap.size+1+1+1) l∧∀x,(BM.getM l x).getD false=true↔usedAt s k x)∧Below w.heap.size w wr
theorem dirRel_below {w wr wq:World} {s:ByteArray} {k:Nat} (h:q58z w wr s k) (hb:Below wr.heap.size wr wq):q58z w wq s k:=by
 obtain⟨h0,h1,h2,h3,⟨l,h4,h5⟩,h6⟩:=h
 exact⟨h0,heapOld hb h1,heapOld hb h2,heapOld hb h3,⟨l,h4.old (hb.block _ h4.lt),h5⟩,blN h6 hb⟩
theorem dirRel_next {w wq:World} {s:ByteArray} {k:Nat} {n:Int} {N:ByteArray} {o':Obj} (h:q58z w wq s k) (hk:k<4) (hs:slotOf s k=⟨n,N⟩) (h1:slotsTo s (k+1)) (ho:∀l,BM.MapAt wq (w.heap.size+1+1+1) l→(∀x,(BM.getM l x).getD false=true↔usedAt s k x)→∃l',BM.IsMap o' l'∧∀x,(BM.getM l' x).getD false=true↔usedAt s (k+1) x) :
 q58z w (sets (ChangeMaps.setBlock wq (w.heap.size+1+1+1) o') (w.heap.size+1) (k*2) [.int .i64 n,.string N]) s (k+1):=by
 obtain⟨h0,g1,g2,g3,⟨l,g4,g5⟩,g6⟩:=h
 obtain⟨l',q1,q2⟩:=ho l g4 g5
 have hlt:=g4.lt
 have e1:=(BM.heap_setBlock_ne (w:=wq) o' (show w.heap.size≠w.heap.size+1+1+1 by omega)).trans g1
 have e2:=(BM.heap_setBlock_ne (w:=wq) o' (show w.heap.size+1≠w.heap.size+1+1+1 by omega)).trans g2
 have e3:=(BM.heap_setBlock_ne (w:=wq) o' (show w.heap.size+1+1≠w.heap.size+1+1+1 by omega)).trans g3
 have e4:=BM.heap_setBlock_at (w:=wq) o' hlt
 have hb:Below w.heap.size w (ChangeMaps.setBlock wq (w.heap.size+1+1+1) o'):=⟨g6.os,g6.tape,g6.output,by rw[BM.size_setBlock]; exact g6.size,fun j hj=>by rw[BM.heap_setBlock_ne _ (by omega)]; exact g6.block j hj⟩
 have hso:∀(vs:List Value) (i:Nat) (W:World) (b j:Nat),j≠b→(sets W b i vs).heap[j]? = W.heap[j]?:=by
  intro vs
  induction vs with
  | nil=>intro i W b j _; rfl
  | cons v r ih=>intro i W b j hj; exact(ih (i+1) _ b j hj).trans (setHeap_ne v hj)
 have hl8:(dirA s k).size=8:=rfl
 have e5:=sets_heap [.int .i64 n,.string N] (k*2) _ (dirA s k) e2 (by rw[hl8]; show k*2+2≤8; omega)
 have e6:=dirL_step s k hk
 rw[hs] at e6
 refine⟨h1,(hso _ _ _ _ _ (by omega)).trans e1,?_,(hso _ _ _ _ _ (by omega)).trans e3,⟨l',⟨o',(hso _ _ _ _ _ (by omega)).trans e4,q1⟩,q2⟩,sets_below (by omega) _ _ _ hb⟩
 rw[e5]
 show some (Obj.cells ((dirL s k).take (k*2) ++ [Value.int .i64 n,Value.string N] ++ (dirL s k).drop (k*2+2)).toArray _ _)=_
 rw[e6]
 rfl
theorem dirRel_start {w W:World} {s:ByteArray} (h:(((w.alloc (.cells (dirA s 0) 155)).alloc (.cells (dirA s 0) 155)).alloc (.cells (dirA s 0) 155)).alloc (.map #[] 0)=W):q58z w W s 0:=by
 subst h
 obtain⟨h0,h1,h2,h3⟩:=boxes3 (w:=w) (a:=.cells (dirA s 0) 155) (b:=.cells (dirA s 0) 155) (c:=.cells (dirA s 0) 155) (bl2 (.map #[] 0))
 refine⟨slotsTo_zero s,h1,h2,h3,⟨[],⟨_,?_,BM.IsMap.new⟩,fun x=>?_⟩,h0⟩
 ·have:=heapNew (((w.alloc (.cells (dirA s 0) 155)).alloc (.cells (dirA s 0) 155)).alloc (.cells (dirA s 0) 155)) (.map #[] 0)
  have e:(((w.alloc (.cells (dirA s 0) 155)).alloc (.cells (dirA s 0) 155)).alloc (.cells (dirA s 0) 155)).heap.size=w.heap.size+1+1+1:=by simp
  rw[e] at this
  exact this
 ·constructor
  ·intro h; cases h
  ·rintro⟨j,hj,_⟩; omega
section
set_option maxHeartbeats 8000000
set_option maxRecDepth 20000 in
theorem edecode_any (w:World) (s:ByteArray) (hm:MaxOk w):Calls Tryz.prog 139 #[.string s] w (EDec s w):=by
 have HNo:Hid (¬isDirS s→∀w',Below w.heap.size w w'→EDec s w (.returned (.tuple #[.agg #[.int .i64 0,.string ⟨#[]⟩,.int .i64 0,.string ⟨#[]⟩,.int .i64 0,.string ⟨#[]⟩,.int .i64 0,.string ⟨#[]⟩],.int .i64 70])) w'):=fun h w' hb=>edec_no h hb
 have HYes:Hid (isDirS s→∀w',Below w.heap.size w w'→EDec s w (.returned (.tuple #[.agg #[.int .i64 (slotOf s 0).inode,.string (slotOf s 0).name,.int .i64 (slotOf s 1).inode,.string (slotOf s 1).name,.int .i64 (slotOf s 2).inode,.string (slotOf s 2).name,.int .i64 (slotOf s 3).inode,.string (slotOf s 3).name],.int .i64 0])) w'):=fun h w' hb=>edec_yes h hb
 obtain⟨Q,hQ⟩:=zx (EDec s w)
 rw[hQ] at HNo HYes ⊢
 clear hQ
 by_cases hs:s.size=64
 rotate_left
 ·have HN:=zh (HNo.out (fun h=>hs h.1))
  have f1:((s.size:Int) == 64)=false:=beq_eq_false_iff_ne.2 (by omega)
  have f2:((s.size:Int) != 64)=true:=by rw[bne,f1]; rfl
  clear hs HNo HYes
  go_enter Tryz.func139,Tryz.ntmps139
  go_wp2
  refine bodyPost_ret (v:=.tuple #[.agg #[.int .i64 0,.string ⟨#[]⟩,.int .i64 0,.string ⟨#[]⟩,.int .i64 0,.string ⟨#[]⟩,.int .i64 0,.string ⟨#[]⟩],.int .i64 70]) (by simp[results,Tryz.results139,go_sem]) rfl ?_
  exact HN.out _ (bl1 (bl1 (bl2 _) _) _)
 have f1:((s.size:Int) == 64)=true:=by rw[hs]; rfl
 have f2:((s.size:Int) != 64)=false:=by rw[hs]; rfl
 have HPc:Hid (∀k,k<4→∃T c N n,s.extract (k*16) (k*16+16)=T∧Piece s k T c N n):=fun k hk=>piece_of hs hk
 have HAll:Hid (slotsTo s 4→isDirS s):=(slotsTo_all hs).2
 have HDir:Hid (isDirS s→slotsTo s 4):=(slotsTo_all hs).1
 have hmm:=@run_makeMap Tryz.prog
 have hlk:∀(W:World) (l:List (ByteArray×Bool)) (x:ByteArray),BM.MapAt W (w.heap.size+1+1+1) l→(Instr.lookup 182 (.map (some (w.heap.size+1+1+1))) (.string x) false).run Tryz.prog W = .ok (.bool ((BM.getM l x).getD false)) W:=fun W l x h=>by
  have:=BM.run_lookup_bool (P:=Tryz.prog) (T:=182) (K:=9) (E:=4) Tryz.underlying182 Tryz.underlying9 (by kernel_rfl) h x
  rw[this]
  cases BM.getM l x <;> rfl
 have HLK:=zh hlk
 have HS:=zh hs
 have HM:=zh hm
 clear hlk hs hm
 go_enter Tryz.func139,Tryz.ntmps139
 go_wp2
 go_loopw [17] (fun i wr=>∃k:Nat,k≤4∧i = .int .i64 k∧Hid (q58z w wr s k)) (fun i _=>4-(intOf i).toNat)
 case atStart=>exact⟨0,Nat.zero_le _,rfl,zh (dirRel_start rfl)⟩
 case round=>
  obtain⟨k,hk,rfl,HR⟩:=hrel
  by_cases hlt:k<4
  ·obtain⟨T,c,N,n,hT,hP⟩:=HPc.out k hlt
   have e1:(k:Int)*16=((k*16:Nat):Int):=by omega
   have e2:((k:Int)+1)*16=((k*16+16:Nat):Int):=by omega
   obtain⟨a,ha⟩:=zx (k*16)
   rw[ha] at hT e1 e2
   have ha48:a≤48:=by omega
   have hx2:∀W:World,(Instr.index 9 (.string T) (.int .i64 2)).run Tryz.prog W = .ok (.int .u8 (c.toNat:Int)) W:=fun W=>by
    have:=text_lit W hP.lenB
    rw[hP.byte] at this
    exact this
   have hsz:=hP.size
   have hN:=hP.name
   have hlong:=hP.long
   have hnum:=fun W:World=>fget_any W s (a:Int) 2
   have hgn:=hP.num
   rw[ha] at hgn
   have hgc:getC s (a:Int) 2=0:=by
    unfold getC
    rw[if_neg (by simp[HS.out]),if_pos ⟨by decide,by refine⟨by omega,by omega,by omega,by omega⟩⟩]
   rw[hgn,hgc] at hnum
   have hok:=hP.ok
   have hsl:=hP.slot
   have hnb:=hP.numB
   have hb1:(a:Int)+16≤(s.size:Int):=by rw[HS.out]; omega
   have hcb:c.toNat<256:=UInt8.toNat_lt c
   obtain⟨cn,hcn⟩:=zx (c.toNat)
   rw[hcn] at hx2 hN hlong hok hcb
   have hT16:(T.size:Int)=16:=by rw[hsz]; rfl
   have HNb:=zh hnb
   have HNUM:=zh hnum
   have HOK:=zh hok
   have HSL:=zh hsl
   have HLONG:=zh hlong
   clear hnum hok hsl hlong
   have HA:=zh ha
   have HT:=zh hT
   by_cases hc13:cn≤13
   rotate_left
   ·have HN:=zh (HNo.out (fun h=>hc13 (HOK.out.1 ((HDir.out h) k hlt).1).1))
    obtain⟨wq,hwq⟩:∃W,W=wr:=⟨_,rfl⟩
    subst hwq
    have HRQ:=HR
    have hgt:(13:Int)<(cn:Int):=by omega
    clear hP ha hcn hsz hnb hgn hgc hN hT16
    obtain⟨_,hq0,_,hq2,_,hbq⟩:=HRQ.out
    have y0:wq.cell? ⟨w.heap.size+1+1,0,none⟩=some (.int .i64 0):=cellOf hq2 rfl
    have y1:wq.cell? ⟨w.heap.size+1+1,1,none⟩=some (.string ⟨#[]⟩):=cellOf hq2 rfl
    have y2:wq.cell? ⟨w.heap.size+1+1,2,none⟩=some (.int .i64 0):=cellOf hq2 rfl
    have y3:wq.cell? ⟨w.heap.size+1+1,3,none⟩=some (.string ⟨#[]⟩):=cellOf hq2 rfl
    have y4:wq.cell? ⟨w.heap.size+1+1,4,none⟩=some (.int .i64 0):=cellOf hq2 rfl
    have y5:wq.cell? ⟨w.heap.size+1+1,5,none⟩=some (.string ⟨#[]⟩):=cellOf hq2 rfl
    have y6:wq.cell? ⟨w.heap.size+1+1,6,none⟩=some (.int .i64 0):=cellOf hq2 rfl
    have y7:wq.cell? ⟨w.heap.size+1+1,7,none⟩=some (.string ⟨#[]⟩):=cellOf hq2 rfl
    have p0:wq.cell? ⟨w.heap.size,0,none⟩=some (.int .i64 0):=cellOf hq0 rfl
    have p1:wq.cell? ⟨w.heap.size,1,none⟩=some (.string ⟨#[]⟩):=cellOf hq0 rfl
    have p2:wq.cell? ⟨w.heap.size,2,none⟩=some (.int .i64 0):=cellOf hq0 rfl
    have p3:wq.cell? ⟨w.heap.size,3,none⟩=some (.string ⟨#[]⟩):=cellOf hq0 rfl
    have p4:wq.cell? ⟨w.heap.size,4,none⟩=some (.int .i64 0):=cellOf hq0 rfl
    have p5:wq.cell? ⟨w.heap.size,5,none⟩=some (.string ⟨#[]⟩):=cellOf hq0 rfl
    have p6:wq.cell? ⟨w.heap.size,6,none⟩=some (.int .i64 0):=cellOf hq0 rfl
    have p7:wq.cell? ⟨w.heap.size,7,none⟩=some (.string ⟨#[]⟩):=cellOf hq0 rfl
    have v0:wq.frozen? ⟨w.heap.size,0,none⟩=false:=freeOf hq0
    have v1:wq.frozen? ⟨w.heap.size,1,none⟩=false:=freeOf hq0
    have v2:wq.frozen? ⟨w.heap.size,2,none⟩=false:=freeOf hq0
    have v3:wq.frozen? ⟨w.heap.size,3,none⟩=false:=freeOf hq0
    have v4:wq.frozen? ⟨w.heap.size,4,none⟩=false:=freeOf hq0
    have v5:wq.frozen? ⟨w.heap.size,5,none⟩=false:=freeOf hq0
    have v6:wq.frozen? ⟨w.heap.size,6,none⟩=false:=freeOf hq0
    have v7:wq.frozen? ⟨w.heap.size,7,none⟩=false:=freeOf hq0
    have HQ0:=zh hq0
    have HBQ:=zh hbq
    clear hq0 hq2 hbq
    go_wp2
    obtain⟨Wf,hWf⟩:=zx (sets wq w.heap.size 0 [.int .i64 0,.string ⟨#[]⟩,.int .i64 0,.string ⟨#[]⟩,.int .i64 0,.string ⟨#[]⟩,.int .i64 0,.string ⟨#[]⟩])
    have hw4:=sets_all (vs:=[.int .i64 0,.string ⟨#[]⟩,.int .i64 0,.string ⟨#[]⟩,.int .i64 0,.string ⟨#[]⟩,.int .i64 0,.string ⟨#[]⟩]) HQ0.out rfl
    have hb4:=sets_below (B:=w.heap.size) (b:=w.heap.size) (Nat.le_refl _) [.int .i64 0,.string ⟨#[]⟩,.int .i64 0,.string ⟨#[]⟩,.int .i64 0,.string ⟨#[]⟩,.int .i64 0,.string ⟨#[]⟩] 0 _ HBQ.out
    rw[hWf] at hw4 hb4
    show bodyPost _ _ _ _ _ (sets wq w.heap.size 0 [.int .i64 0,.string ⟨#[]⟩,.int .i64 0,.string ⟨#[]⟩,.int .i64 0,.string ⟨#[]⟩,.int .i64 0,.string ⟨#[]⟩])
    rw[hWf]
    clear y0 p0 v0 y1 p1 v1 y2 p2 v2 y3 p3 v3 y4 p4 v4 y5 p5 v5 y6 p6 v6 y7 p7 v7
    have y0:=zc 0 hw4
    have y1:=zc 1 hw4
    have y2:=zc 2 hw4
    have y3:=zc 3 hw4
    have y4:=zc 4 hw4
    have y5:=zc 5 hw4
    have y6:=zc 6 hw4
    have y7:=zc 7 hw4
    refine bodyPost_ret (v:=.tuple #[.agg #[.int .i64 0,.string ⟨#[]⟩,.int .i64 0,.string ⟨#[]⟩,.int .i64 0,.string ⟨#[]⟩,.int .i64 0,.string ⟨#[]⟩],.int .i64 70]) (by simp[results,Tryz.results139,go_sem,y0,y1,y2,y3,y4,y5,y6,y7]) rfl ?_
    exact HN.out _ hb4
   ·have hgt:¬(13:Int)<(cn:Int):=by omega
    have hln:=HLONG.out hc13
    have hNs:N.size≤13:=by omega
    have e3:IntKind.u8.wrap (3+(cn:Int))=3+(cn:Int):=IntWalk.u8_in _ (by omega)
    have hb3:3+(cn:Int)≤(T.size:Int):=by rw[hT16]; omega
    have hmay:=fun(W:World) (h:MaxOk W)=>emay_any W ⟨n,N⟩ h (by show N.size≤maxLen; unfold maxLen; omega)
    have hslot:=fun W:World=>eslot_any W ⟨n,N⟩ hnb.1 hnb.2 hNs
    have HM2:Hid (∀W,Below w.heap.size w W→MaxOk W):=fun W h=>HM.out.below h
    unfold eV at hmay hslot
    simp only at hmay hslot
    obtain⟨TS,hTS⟩:=zx (ofL (slotL ⟨n,N⟩))
    rw[hTS] at hslot HOK
    obtain⟨M,hM⟩:=zx (Sp.Entry.may ⟨n,N⟩)
    have HMd:Hid ((decide (Sp.Entry.may ⟨n,N⟩)=true↔Sp.Entry.may ⟨n,N⟩)):=decide_eq_true_iff
    obtain⟨md,hmd⟩:=zx (decide (Sp.Entry.may ⟨n,N⟩))
    rw[hmd] at hmay HMd
    have HMAY:=zh hmay
    have HSLOT:=zh hslot
    clear hmay hslot
    clear hM hmd hTS hP ha hcn hnb hgn hgc
    go_wp2_with fail
    refine(HNUM.out _).mono ?_
    rintro e w1 ⟨rfl,hb1⟩
    have HR1:=zh (dirRel_below HR.out hb1)
    clear hb1
    go_wp2_with fail
    refine(HMAY.out _ (HM2.out _ (bl1 HR1.out.2.2.2.2.2 _))).mono ?_
    rintro e w2 ⟨rfl,hb2⟩
    have HR2:=zh (dirRel_below (dirRel_below HR1.out (bl2 _)) hb2)
    have hx:=heapOld hb2 (heapNew w1 _)
    have HX:=zh hx
    have k0:=zc 0 hx
    have k1:=zc 1 hx
    clear hb2 hx
    cases md
    ·have HN:=zh (HNo.out (fun h=>by
      have:=(HOK.out.1 ((HDir.out h) k hlt).1).2.1
      exact absurd (HMd.out.2 this) (by decide)))
     obtain⟨wq,hwq⟩:∃W,W=w2:=⟨_,rfl⟩
     subst hwq
     have HRQ:=HR2
     obtain⟨_,hq0,_,hq2,_,hbq⟩:=HRQ.out
     have y0:wq.cell? ⟨w.heap.size+1+1,0,none⟩=some (.int .i64 0):=cellOf hq2 rfl
     have y1:wq.cell? ⟨w.heap.size+1+1,1,none⟩=some (.string ⟨#[]⟩):=cellOf hq2 rfl
     have y2:wq.cell? ⟨w.heap.size+1+1,2,none⟩=some (.int .i64 0):=cellOf hq2 rfl
     have y3:wq.cell? ⟨w.heap.size+1+1,3,none⟩=some (.string ⟨#[]⟩):=cellOf hq2 rfl
     have y4:wq.cell? ⟨w.heap.size+1+1,4,none⟩=some (.int .i64 0):=cellOf hq2 rfl
     have y5:wq.cell? ⟨w.heap.size+1+1,5,none⟩=some (.string ⟨#[]⟩):=cellOf hq2 rfl
     have y6:wq.cell? ⟨w.heap.size+1+1,6,none⟩=some (.int .i64 0):=cellOf hq2 rfl
     have y7:wq.cell? ⟨w.heap.size+1+1,7,none⟩=some (.string ⟨#[]⟩):=cellOf hq2 rfl
     have p0:wq.cell? ⟨w.heap.size,0,none⟩=some (.int .i64 0):=cellOf hq0 rfl
     have p1:wq.cell? ⟨w.heap.size,1,none⟩=some (.string ⟨#[]⟩):=cellOf hq0 rfl
     have p2:wq.cell? ⟨w.heap.size,2,none⟩=some (.int .i64 0):=cellOf hq0 rfl
     have p3:wq.cell? ⟨w.heap.size,3,none⟩=some (.string ⟨#[]⟩):=cellOf hq0 rfl
     have p4:wq.cell? ⟨w.heap.size,4,none⟩=some (.int .i64 0):=cellOf hq0 rfl
     have p5:wq.cell? ⟨w.heap.size,5,none⟩=some (.string ⟨#[]⟩):=cellOf hq0 rfl
     have p6:wq.cell? ⟨w.heap.size,6,none⟩=some (.int .i64 0):=cellOf hq0 rfl
     have p7:wq.cell? ⟨w.heap.size,7,none⟩=some (.string ⟨#[]⟩):=cellOf hq0 rfl
     have v0:wq.frozen? ⟨w.heap.size,0,none⟩=false:=freeOf hq0
     have v1:wq.frozen? ⟨w.heap.size,1,none⟩=false:=freeOf hq0
     have v2:wq.frozen? ⟨w.heap.size,2,none⟩=false:=freeOf hq0
     have v3:wq.frozen? ⟨w.heap.size,3,none⟩=false:=freeOf hq0
     have v4:wq.frozen? ⟨w.heap.size,4,none⟩=false:=freeOf hq0
     have v5:wq.frozen? ⟨w.heap.size,5,none⟩=false:=freeOf hq0
     have v6:wq.frozen? ⟨w.heap.size,6,none⟩=false:=freeOf hq0
     have v7:wq.frozen? ⟨w.heap.size,7,none⟩=false:=freeOf hq0
     have HQ0:=zh hq0
     have HBQ:=zh hbq
     clear hq0 hq2 hbq
     go_wp2
     obtain⟨Wf,hWf⟩:=zx (sets wq w.heap.size 0 [.int .i64 0,.string ⟨#[]⟩,.int .i64 0,.string ⟨#[]⟩,.int .i64 0,.string ⟨#[]⟩,.int .i64 0,.string ⟨#[]⟩])
     have hw4:=sets_all (vs:=[.int .i64 0,.string ⟨#[]⟩,.int .i64 0,.string ⟨#[]⟩,.int .i64 0,.string ⟨#[]⟩,.int .i64 0,.string ⟨#[]⟩]) HQ0.out rfl
     have hb4:=sets_below (B:=w.heap.size) (b:=w.heap.size) (Nat.le_refl _) [.int .i64 0,.string ⟨#[]⟩,.int .i64 0,.string ⟨#[]⟩,.int .i64 0,.string ⟨#[]⟩,.int .i64 0,.string ⟨#[]⟩] 0 _ HBQ.out
     rw[hWf] at hw4 hb4
     show bodyPost _ _ _ _ _ (sets wq w.heap.size 0 [.int .i64 0,.string ⟨#[]⟩,.int .i64 0,.string ⟨#[]⟩,.int .i64 0,.string ⟨#[]⟩,.int .i64 0,.string ⟨#[]⟩])
     rw[hWf]
     clear y0 p0 v0 y1 p1 v1 y2 p2 v2 y3 p3 v3 y4 p4 v4 y5 p5 v5 y6 p6 v6 y7 p7 v7
     have y0:=zc 0 hw4
     have y1:=zc 1 hw4
     have y2:=zc 2 hw4
     have y3:=zc 3 hw4
     have y4:=zc 4 hw4
     have y5:=zc 5 hw4
     have y6:=zc 6 hw4
     have y7:=zc 7 hw4
     refine bodyPost_ret (v:=.tuple #[.agg #[.int .i64 0,.string ⟨#[]⟩,.int .i64 0,.string ⟨#[]⟩,.int .i64 0,.string ⟨#[]⟩,.int .i64 0,.string ⟨#[]⟩],.int .i64 70]) (by simp[results,Tryz.results139,go_sem,y0,y1,y2,y3,y4,y5,y6,y7]) rfl ?_
     exact HN.out _ hb4
    go_wp2_with fail
    clear k0 k1
    refine(HSLOT.out _).mono ?_
    rintro e w3 ⟨rfl,hb3'⟩
    have HR3:=zh (dirRel_below HR2.out hb3')
    have HX3:=zh (heapOld hb3' HX.out)
    have k0:=zc 0 HX3.out
    have k1:=zc 1 HX3.out
    have q:=list_eq TS T
    clear hb3'
    by_cases hTT:TS=T
    rotate_left
    ·have f:(TS.toList == T.toList)=false:=q.trans (decide_eq_false hTT)
     have HN:=zh (HNo.out (fun h=>hTT (HOK.out.1 ((HDir.out h) k hlt).1).2.2))
     obtain⟨wq,hwq⟩:∃W,W=w3:=⟨_,rfl⟩
     subst hwq
     have HRQ:=HR3
     clear q hTT
     obtain⟨_,hq0,_,hq2,_,hbq⟩:=HRQ.out
     have y0:wq.cell? ⟨w.heap.size+1+1,0,none⟩=some (.int .i64 0):=cellOf hq2 rfl
     have y1:wq.cell? ⟨w.heap.size+1+1,1,none⟩=some (.string ⟨#[]⟩):=cellOf hq2 rfl
     have y2:wq.cell? ⟨w.heap.size+1+1,2,none⟩=some (.int .i64 0):=cellOf hq2 rfl
     have y3:wq.cell? ⟨w.heap.size+1+1,3,none⟩=some (.string ⟨#[]⟩):=cellOf hq2 rfl
     have y4:wq.cell? ⟨w.heap.size+1+1,4,none⟩=some (.int .i64 0):=cellOf hq2 rfl
     have y5:wq.cell? ⟨w.heap.size+1+1,5,none⟩=some (.string ⟨#[]⟩):=cellOf hq2 rfl
     have y6:wq.cell? ⟨w.heap.size+1+1,6,none⟩=some (.int .i64 0):=cellOf hq2 rfl
     have y7:wq.cell? ⟨w.heap.size+1+1,7,none⟩=some (.string ⟨#[]⟩):=cellOf hq2 rfl
     have p0:wq.cell? ⟨w.heap.size,0,none⟩=some (.int .i64 0):=cellOf hq0 rfl
     have p1:wq.cell? ⟨w.heap.size,1,none⟩=some (.string ⟨#[]⟩):=cellOf hq0 rfl
     have p2:wq.cell? ⟨w.heap.size,2,none⟩=some (.int .i64 0):=cellOf hq0 rfl
     have p3:wq.cell? ⟨w.heap.size,3,none⟩=some (.string ⟨#[]⟩):=cellOf hq0 rfl
     have p4:wq.cell? ⟨w.heap.size,4,none⟩=some (.int .i64 0):=cellOf hq0 rfl
     have p5:wq.cell? ⟨w.heap.size,5,none⟩=some (.string ⟨#[]⟩):=cellOf hq0 rfl
     have p6:wq.cell? ⟨w.heap.size,6,none⟩=some (.int .i64 0):=cellOf hq0 rfl
     have p7:wq.cell? ⟨w.heap.size,7,none⟩=some (.string ⟨#[]⟩):=cellOf hq0 rfl
     have v0:wq.frozen? ⟨w.heap.size,0,none⟩=false:=freeOf hq0
     have v1:wq.frozen? ⟨w.heap.size,1,none⟩=false:=freeOf hq0
     have v2:wq.frozen? ⟨w.heap.size,2,none⟩=false:=freeOf hq0
     have v3:wq.frozen? ⟨w.heap.size,3,none⟩=false:=freeOf hq0
     have v4:wq.frozen? ⟨w.heap.size,4,none⟩=false:=freeOf hq0
     have v5:wq.frozen? ⟨w.heap.size,5,none⟩=false:=freeOf hq0
     have v6:wq.frozen? ⟨w.heap.size,6,none⟩=false:=freeOf hq0
     have v7:wq.frozen? ⟨w.heap.size,7,none⟩=false:=freeOf hq0
     have HQ0:=zh hq0
     have HBQ:=zh hbq
     clear hq0 hq2 hbq
     go_wp2
     obtain⟨Wf,hWf⟩:=zx (sets wq w.heap.size 0 [.int .i64 0,.string ⟨#[]⟩,.int .i64 0,.string ⟨#[]⟩,.int .i64 0,.string ⟨#[]⟩,.int .i64 0,.string ⟨#[]⟩])
     have hw4:=sets_all (vs:=[.int .i64 0,.string ⟨#[]⟩,.int .i64 0,.string ⟨#[]⟩,.int .i64 0,.string ⟨#[]⟩,.int .i64 0,.string ⟨#[]⟩]) HQ0.out rfl
     have hb4:=sets_below (B:=w.heap.size) (b:=w.heap.size) (Nat.le_refl _) [.int .i64 0,.string ⟨#[]⟩,.int .i64 0,.string ⟨#[]⟩,.int .i64 0,.string ⟨#[]⟩,.int .i64 0,.string ⟨#[]⟩] 0 _ HBQ.out
     rw[hWf] at hw4 hb4
     show bodyPost _ _ _ _ _ (sets wq w.heap.size 0 [.int .i64 0,.string ⟨#[]⟩,.int .i64 0,.string ⟨#[]⟩,.int .i64 0,.string ⟨#[]⟩,.int .i64 0,.string ⟨#[]⟩])
     rw[hWf]
     clear y0 p0 v0 y1 p1 v1 y2 p2 v2 y3 p3 v3 y4 p4 v4 y5 p5 v5 y6 p6 v6 y7 p7 v7
     have y0:=zc 0 hw4
     have y1:=zc 1 hw4
     have y2:=zc 2 hw4
     have y3:=zc 3 hw4
     have y4:=zc 4 hw4
     have y5:=zc 5 hw4
     have y6:=zc 6 hw4
     have y7:=zc 7 hw4
     refine bodyPost_ret (v:=.tuple #[.agg #[.int .i64 0,.string ⟨#[]⟩,.int .i64 0,.string ⟨#[]⟩,.int .i64 0,.string ⟨#[]⟩,.int .i64 0,.string ⟨#[]⟩],.int .i64 70]) (by simp[results,Tryz.results139,go_sem,y0,y1,y2,y3,y4,y5,y6,y7]) rfl ?_
     exact HN.out _ hb4
    have f:(TS.toList == T.toList)=true:=q.trans (decide_eq_true hTT)
    have hsok:slotOk s k:=HOK.out.2 ⟨hc13,HMd.out.1 (by first | rfl | trivial),hTT⟩
    have hmap:=HR3.out.2.2.2.2.1
    obtain⟨lm,hm1,hm2⟩:=hmap
    have hlu:=HLK.out w3 lm N hm1
    obtain⟨u,hu⟩:=zx ((BM.getM lm N).getD false)
    rw[hu] at hlu
    have hu2:=hm2 N
    rw[hu] at hu2
    have hslots:=HR3.out.1
    have hused:=used_iff hslots (k:=k)
    rw[HSL.out] at hused
    simp only at hused
    clear q hTT
    cases u
    rotate_left
    ·have HN:=zh (HNo.out (fun h=>by
      have h4:=((HDir.out h) k hlt).2
      rw[HSL.out] at h4
      exact(hused.1 (hu2.1 rfl)) h4))
     obtain⟨wq,hwq⟩:∃W,W=w3:=⟨_,rfl⟩
     subst hwq
     have HRQ:=HR3
     clear hm1 hm2 hu hu2 hslots hused hsok
     obtain⟨_,hq0,_,hq2,_,hbq⟩:=HRQ.out
     have y0:wq.cell? ⟨w.heap.size+1+1,0,none⟩=some (.int .i64 0):=cellOf hq2 rfl
     have y1:wq.cell? ⟨w.heap.size+1+1,1,none⟩=some (.string ⟨#[]⟩):=cellOf hq2 rfl
     have y2:wq.cell? ⟨w.heap.size+1+1,2,none⟩=some (.int .i64 0):=cellOf hq2 rfl
     have y3:wq.cell? ⟨w.heap.size+1+1,3,none⟩=some (.string ⟨#[]⟩):=cellOf hq2 rfl
     have y4:wq.cell? ⟨w.heap.size+1+1,4,none⟩=some (.int .i64 0):=cellOf hq2 rfl
     have y5:wq.cell? ⟨w.heap.size+1+1,5,none⟩=some (.string ⟨#[]⟩):=cellOf hq2 rfl
     have y6:wq.cell? ⟨w.heap.size+1+1,6,none⟩=some (.int .i64 0):=cellOf hq2 rfl
     have y7:wq.cell? ⟨w.heap.size+1+1,7,none⟩=some (.string ⟨#[]⟩):=cellOf hq2 rfl
     have p0:wq.cell? ⟨w.heap.size,0,none⟩=some (.int .i64 0):=cellOf hq0 rfl
     have p1:wq.cell? ⟨w.heap.size,1,none⟩=some (.string ⟨#[]⟩):=cellOf hq0 rfl
     have p2:wq.cell? ⟨w.heap.size,2,none⟩=some (.int .i64 0):=cellOf hq0 rfl
     have p3:wq.cell? ⟨w.heap.size,3,none⟩=some (.string ⟨#[]⟩):=cellOf hq0 rfl
     have p4:wq.cell? ⟨w.heap.size,4,none⟩=some (.int .i64 0):=cellOf hq0 rfl
     have p5:wq.cell? ⟨w.heap.size,5,none⟩=some (.string ⟨#[]⟩):=cellOf hq0 rfl
     have p6:wq.cell? ⟨w.heap.size,6,none⟩=some (.int .i64 0):=cellOf hq0 rfl
     have p7:wq.cell? ⟨w.heap.size,7,none⟩=some (.string ⟨#[]⟩):=cellOf hq0 rfl
     have v0:wq.frozen? ⟨w.heap.size,0,none⟩=false:=freeOf hq0
     have v1:wq.frozen? ⟨w.heap.size,1,none⟩=false:=freeOf hq0
     have v2:wq.frozen? ⟨w.heap.size,2,none⟩=false:=freeOf hq0
     have v3:wq.frozen? ⟨w.heap.size,3,none⟩=false:=freeOf hq0
     have v4:wq.frozen? ⟨w.heap.size,4,none⟩=false:=freeOf hq0
     have v5:wq.frozen? ⟨w.heap.size,5,none⟩=false:=freeOf hq0
     have v6:wq.frozen? ⟨w.heap.size,6,none⟩=false:=freeOf hq0
     have v7:wq.frozen? ⟨w.heap.size,7,none⟩=false:=freeOf hq0
     have HQ0:=zh hq0
     have HBQ:=zh hbq
     clear hq0 hq2 hbq
     go_wp2
     obtain⟨Wf,hWf⟩:=zx (sets wq w.heap.size 0 [.int .i64 0,.string ⟨#[]⟩,.int .i64 0,.string ⟨#[]⟩,.int .i64 0,.string ⟨#[]⟩,.int .i64 0,.string ⟨#[]⟩])
     have hw4:=sets_all (vs:=[.int .i64 0,.string ⟨#[]⟩,.int .i64 0,.string ⟨#[]⟩,.int .i64 0,.string ⟨#[]⟩,.int .i64 0,.string ⟨#[]⟩]) HQ0.out rfl
     have hb4:=sets_below (B:=w.heap.size) (b:=w.heap.size) (Nat.le_refl _) [.int .i64 0,.string ⟨#[]⟩,.int .i64 0,.string ⟨#[]⟩,.int .i64 0,.string ⟨#[]⟩,.int .i64 0,.string ⟨#[]⟩] 0 _ HBQ.out
     rw[hWf] at hw4 hb4
     show bodyPost _ _ _ _ _ (sets wq w.heap.size 0 [.int .i64 0,.string ⟨#[]⟩,.int .i64 0,.string ⟨#[]⟩,.int .i64 0,.string ⟨#[]⟩,.int .i64 0,.string ⟨#[]⟩])
     rw[hWf]
     clear y0 p0 v0 y1 p1 v1 y2 p2 v2 y3 p3 v3 y4 p4 v4 y5 p5 v5 y6 p6 v6 y7 p7 v7
     have y0:=zc 0 hw4
     have y1:=zc 1 hw4
     have y2:=zc 2 hw4
     have y3:=zc 3 hw4
     have y4:=zc 4 hw4
     have y5:=zc 5 hw4
     have y6:=zc 6 hw4
     have y7:=zc 7 hw4
     refine bodyPost_ret (v:=.tuple #[.agg #[.int .i64 0,.string ⟨#[]⟩,.int .i64 0,.string ⟨#[]⟩,.int .i64 0,.string ⟨#[]⟩,.int .i64 0,.string ⟨#[]⟩],.int .i64 70]) (by simp[results,Tryz.results139,go_sem,y0,y1,y2,y3,y4,y5,y6,y7]) rfl ?_
     exact HN.out _ hb4
    have hstep:slotsTo s (k+1):=slotsTo_step hslots hsok (by
     rw[HSL.out]
     exact Classical.byContradiction (fun h=>absurd (hu2.2 (hused.2 h)) (by decide)))
    obtain⟨o',hup,ho'⟩:=BM.run_update_bool (P:=Tryz.prog) (T:=182) (K:=9) (E:=4) Tryz.underlying182 Tryz.underlying9 hm1 N (decide (0<n))
    have hnext:=dirRel_next (o':=o') HR3.out hlt HSL.out hstep (fun l0 h1 h2=>by
     refine⟨_,ho',fun x=>?_⟩
     rw[used_succ x hstep,HSL.out,BM.getM_set]
     by_cases hxN:x=N
     ·rw[if_pos hxN,if_pos hxN]
      simp
     ·rw[if_neg hxN,if_neg hxN]
      exact hm2 x)
    change (Instr.mapUpdate 182 (.map (some (w.heap.size+1+1+1))) (.string N) (.bool (decide (0<n)))).run Tryz.prog w3=_ at hup
    obtain⟨w5,hw5⟩:=zx (ChangeMaps.setBlock w3 (w.heap.size+1+1+1) o')
    have hxb:w1.heap.size≠w.heap.size+1+1+1:=by have:=HR1.out.2.2.2.2.1; obtain⟨l,h,_⟩:=this; have:=h.lt; omega
    have hx5:w5.heap[w1.heap.size]? = some (.cells #[.int .i64 n,.string N] 114 (0,0)):=by rw[←hw5]; exact(BM.heap_setBlock_ne o' hxb).trans HX3.out
    have ho5:w5.heap[w.heap.size+1]? = some (.cells (dirA s k) 155 (0,0)):=by rw[←hw5]; exact(BM.heap_setBlock_ne o' (by omega)).trans HR3.out.2.2.1
    rw[hw5] at hup hnext
    have HNext:=zh hnext
    have m0:=zc 0 hx5
    have m1:=zc 1 hx5
    have hl8:(dirA s k).size=8:=rfl
    have n0:=cellOf (k:=k*2) ho5 (Array.getElem?_eq_getElem (show k*2<(dirA s k).size by rw[hl8]; omega))
    have n1:=cellOf (k:=k*2+1) ho5 (Array.getElem?_eq_getElem (show k*2+1<(dirA s k).size by rw[hl8]; omega))
    have x0:w5.frozen? ⟨w.heap.size+1,k*2,none⟩=false:=freeOf ho5
    have x1:w5.frozen? ⟨w.heap.size+1,k*2+1,none⟩=false:=freeOf ho5
    obtain⟨o0,ho0⟩:=zx ((dirA s k)[k*2]'(by rw[hl8]; omega))
    obtain⟨o1,ho1⟩:=zx ((dirA s k)[k*2+1]'(by rw[hl8]; omega))
    rw[ho0] at n0
    rw[ho1] at n1
    have hk4:(k:Int)<4:=by omega
    clear hm1 hm2 hu hu2 hslots hused hsok hstep ho' hnext hw5 hxb hx5 ho5 hl8 ho0 ho1 HNo HYes HPc HAll HDir
    go_wp2
    go_roundw
    case rel=>exact⟨k+1,by omega,by go_num,HNext⟩
    case measure=>simp[intOf]; omega
  ·obtain rfl:k=4:=by omega
   have hdir:=HAll.out HR.out.1
   have HY:=zh (HYes.out hdir)
   obtain⟨_,hq0,hq1,_,_,hbq⟩:=HR.out
   have y0:wr.cell? ⟨w.heap.size+1,0,none⟩=some (.int .i64 (slotOf s 0).inode):=cellOf hq1 rfl
   have y1:wr.cell? ⟨w.heap.size+1,1,none⟩=some (.string (slotOf s 0).name):=cellOf hq1 rfl
   have y2:wr.cell? ⟨w.heap.size+1,2,none⟩=some (.int .i64 (slotOf s 1).inode):=cellOf hq1 rfl
   have y3:wr.cell? ⟨w.heap.size+1,3,none⟩=some (.string (slotOf s 1).name):=cellOf hq1 rfl
   have y4:wr.cell? ⟨w.heap.size+1,4,none⟩=some (.int .i64 (slotOf s 2).inode):=cellOf hq1 rfl
   have y5:wr.cell? ⟨w.heap.size+1,5,none⟩=some (.string (slotOf s 2).name):=cellOf hq1 rfl
   have y6:wr.cell? ⟨w.heap.size+1,6,none⟩=some (.int .i64 (slotOf s 3).inode):=cellOf hq1 rfl
   have y7:wr.cell? ⟨w.heap.size+1,7,none⟩=some (.string (slotOf s 3).name):=cellOf hq1 rfl
   have p0:wr.cell? ⟨w.heap.size,0,none⟩=some (.int .i64 0):=cellOf hq0 rfl
   have p1:wr.cell? ⟨w.heap.size,1,none⟩=some (.string ⟨#[]⟩):=cellOf hq0 rfl
   have p2:wr.cell? ⟨w.heap.size,2,none⟩=some (.int .i64 0):=cellOf hq0 rfl
   have p3:wr.cell? ⟨w.heap.size,3,none⟩=some (.string ⟨#[]⟩):=cellOf hq0 rfl
   have p4:wr.cell? ⟨w.heap.size,4,none⟩=some (.int .i64 0):=cellOf hq0 rfl
   have p5:wr.cell? ⟨w.heap.size,5,none⟩=some (.string ⟨#[]⟩):=cellOf hq0 rfl
   have p6:wr.cell? ⟨w.heap.size,6,none⟩=some (.int .i64 0):=cellOf hq0 rfl
   have p7:wr.cell? ⟨w.heap.size,7,none⟩=some (.string ⟨#[]⟩):=cellOf hq0 rfl
   have v0:wr.frozen? ⟨w.heap.size,0,none⟩=false:=freeOf hq0
   have v1:wr.frozen? ⟨w.heap.size,1,none⟩=false:=freeOf hq0
   have v2:wr.frozen? ⟨w.heap.size,2,none⟩=false:=freeOf hq0
   have v3:wr.frozen? ⟨w.heap.size,3,none⟩=false:=freeOf hq0
   have v4:wr.frozen? ⟨w.heap.size,4,none⟩=false:=freeOf hq0
   have v5:wr.frozen? ⟨w.heap.size,5,none⟩=false:=freeOf hq0
   have v6:wr.frozen? ⟨w.heap.size,6,none⟩=false:=freeOf hq0
   have v7:wr.frozen? ⟨w.heap.size,7,none⟩=false:=freeOf hq0
   have HQ0:=zh hq0
   have HBQ:=zh hbq
   clear hq0 hq1 hbq hdir HNo HYes HPc HAll HDir
   go_wp2
   obtain⟨Wf,hWf⟩:=zx (sets wr w.heap.size 0 [.int .i64 (slotOf s 0).inode,.string (slotOf s 0).name,.int .i64 (slotOf s 1).inode,.string (slotOf s 1).name,.int .i64 (slotOf s 2).inode,.string (slotOf s 2).name,.int .i64 (slotOf s 3).inode,.string (slotOf s 3).name])
   have hw4:=sets_all (vs:=[.int .i64 (slotOf s 0).inode,.string (slotOf s 0).name,.int .i64 (slotOf s 1).inode,.string (slotOf s 1).name,.int .i64 (slotOf s 2).inode,.string (slotOf s 2).name,.int .i64 (slotOf s 3).inode,.string (slotOf s 3).name]) HQ0.out rfl
   have hb4:=sets_below (B:=w.heap.size) (b:=w.heap.size) (Nat.le_refl _) [.int .i64 (slotOf s 0).inode,.string (slotOf s 0).name,.int .i64 (slotOf s 1).inode,.string (slotOf s 1).name,.int .i64 (slotOf s 2).inode,.string (slotOf s 2).name,.int .i64 (slotOf s 3).inode,.string (slotOf s 3).name] 0 _ HBQ.out
   rw[hWf] at hw4 hb4
   show bodyPost _ _ _ _ _ (sets wr w.heap.size 0 [.int .i64 (slotOf s 0).inode,.string (slotOf s 0).name,.int .i64 (slotOf s 1).inode,.string (slotOf s 1).name,.int .i64 (slotOf s 2).inode,.string (slotOf s 2).name,.int .i64 (slotOf s 3).inode,.string (slotOf s 3).name])
   rw[hWf]
   clear y0 p0 v0 y1 p1 v1 y2 p2 v2 y3 p3 v3 y4 p4 v4 y5 p5 v5 y6 p6 v6 y7 p7 v7
   have y0:=zc 0 hw4
   have y1:=zc 1 hw4
   have y2:=zc 2 hw4
   have y3:=zc 3 hw4
   have y4:=zc 4 hw4
   have y5:=zc 5 hw4
   have y6:=zc 6 hw4
   have y7:=zc 7 hw4
   refine bodyPost_ret (v:=.tuple #[.agg #[.int .i64 (slotOf s 0).inode,.string (slotOf s 0).name,.int .i64 (slotOf s 1).inode,.string (slotOf s 1).name,.int .i64 (slotOf s 2).inode,.string (slotOf s 2).name,.int .i64 (slotOf s 3).inode,.string (slotOf s 3).name],.int .i64 0]) (by simp[results,Tryz.results139,go_sem,y0,y1,y2,y3,y4,y5,y6,y7]) rfl ?_
   exact HY.out _ hb4
end
