import Derived.Test.YtmljdnlmpiklgaaGreatDoorRefD
import Derived.Test.YtmljdnlmpiklgaaGreatDoorEntryDec
namespace Go.Proofs.YtmljdnlmpiklgaaGreatDoor
open Go Go.RowKit Txt Sp
def RDir (w wr:World) (s:ByteArray) (k:Nat):Prop:=
 wr.heap[w.heap.size]? = some (.cells (dirA s 0) 155 (0,0))∧wr.heap[w.heap.size+1]? = some (.cells (dirA s k) 155 (0,0))∧Below w.heap.size w wr
theorem rdir_below {w wr wq:World} {s:ByteArray} {k:Nat} (h:RDir w wr s k) (hb:Below wr.heap.size wr wq):RDir w wq s k:=⟨heapOld hb h.1,heapOld hb h.2.1,blN h.2.2 hb⟩
theorem rdir_next {w wq:World} {s:ByteArray} {k:Nat} {n:Int} {N:ByteArray} (h:RDir w wq s k) (hk:k<4) (hs:slotOf s k=⟨n,N⟩):RDir w (sets wq (w.heap.size+1) (k*2) [.int .i64 n,.string N]) s (k+1):=by
 obtain⟨g1,g2,g6⟩:=h
 have hso:∀(vs:List Value) (i:Nat) (W:World) (b j:Nat),j≠b→(sets W b i vs).heap[j]? = W.heap[j]?:=by
  intro vs
  induction vs with
  | nil=>intro i W b j _; rfl
  | cons v r ih=>intro i W b j hj; exact(ih (i+1) _ b j hj).trans (setHeap_ne v hj)
 have hl8:(dirA s k).size=8:=rfl
 have e5:=sets_heap [.int .i64 n,.string N] (k*2) _ (dirA s k) g2 (by rw[hl8]; show k*2+2≤8; omega)
 have e6:=dirL_step s k hk
 rw[hs] at e6
 refine⟨(hso _ _ _ _ _ (by omega)).trans g1,?_,sets_below (by omega) _ _ _ g6⟩
 rw[e5]
 show some (Obj.cells ((dirL s k).take (k*2) ++ [Value.int .i64 n,Value.string N] ++ (dirL s k).drop (k*2+2)).toArray _ _)=_
 rw[e6]
 rfl
theorem rdir_start {w W:World} {s:ByteArray} (h:(w.alloc (.cells (dirA s 0) 155)).alloc (.cells (dirA s 0) 155)=W):RDir w W s 0:=by
 subst h
 obtain⟨h0,h1,h2⟩:=boxes2 (w:=w) (a:=.cells (dirA s 0) 155) (b:=.cells (dirA s 0) 155) (Below.refl _ _)
 exact⟨h1,h2,h0⟩
theorem dir_cell {s:ByteArray} {k j:Nat} (hj:j<k) (hk:k≤4):(dirA s k)[j*2]? = some (.int .i64 (slotOf s j).inode)∧(dirA s k)[j*2+1]? = some (.string (slotOf s j).name):=by
 have e:j=0∨j=1∨j=2∨j=3:=by omega
 unfold dirA dirL
 rcases e with rfl | rfl | rfl | rfl
 ·rw[if_pos hj]; exact⟨rfl,rfl⟩
 ·rw[if_pos hj]; exact⟨rfl,rfl⟩
 ·rw[if_pos hj]; exact⟨rfl,rfl⟩
 ·rw[if_pos hj]; exact⟨rfl,rfl⟩
section
set_option maxHeartbeats 8000000
set_option maxRecDepth 20000 in
theorem redecode_any (w:World) (s:ByteArray):Calls Tryz.prog 152 #[.string s] w (EDec s w):=by
 have HNo:Hid (¬isDirS s→∀w',Below w.heap.size w w'→EDec s w (.returned (.tuple #[.agg #[.int .i64 0,.string ⟨#[]⟩,.int .i64 0,.string ⟨#[]⟩,.int .i64 0,.string ⟨#[]⟩,.int .i64 0,.string ⟨#[]⟩],.int .i64 70])) w'):=fun h w' hb=>edec_no h hb
 have HYes:Hid (isDirS s→∀w',Below w.heap.size w w'→EDec s w (.returned (.tuple #[.agg #[.int .i64 (slotOf s 0).inode,.string (slotOf s 0).name,.int .i64 (slotOf s 1).inode,.string (slotOf s 1).name,.int .i64 (slotOf s 2).inode,.string (slotOf s 2).name,.int .i64 (slotOf s 3).inode,.string (slotOf s 3).name],.int .i64 0])) w'):=fun h w' hb=>edec_yes h hb
 obtain⟨Q,hQ⟩:=zx (EDec s w)
 rw[hQ] at HNo HYes ⊢
 clear hQ
 by_cases hs:s.size=64
 rotate_left
 ·have HN:=zh (HNo.out (fun h=>hs h.1))
  have f1:((s.size:Int) == 64)=false:=beq_eq_false_iff_ne.2 (by omega)
  have f2:((s.size:Int) != 64)=true:=by rw[bne,f1]; rfl
  clear hs HNo HYes
  go_enter Tryz.func152,Tryz.ntmps152
  go_wp2
  refine bodyPost_ret (v:=.tuple #[.agg #[.int .i64 0,.string ⟨#[]⟩,.int .i64 0,.string ⟨#[]⟩,.int .i64 0,.string ⟨#[]⟩,.int .i64 0,.string ⟨#[]⟩],.int .i64 70]) (by simp[results,Tryz.results152,go_sem]) rfl ?_
  exact HN.out _ (by repeat' first | with_reducible exact Below.refl _ _ | with_reducible refine bl1 ?_ _ | with_reducible refine Below.setCell ?_ (Nat.le_refl _) _)
 have f1:((s.size:Int) == 64)=true:=by rw[hs]; rfl
 have f2:((s.size:Int) != 64)=false:=by rw[hs]; rfl
 have HPc:Hid (∀k,k<4→∃T c N n,s.extract (k*16) (k*16+16)=T∧Piece s k T c N n):=fun k hk=>piece_of hs hk
 have HAll:Hid (slotsTo s 4→isDirS s):=(slotsTo_all hs).2
 have HDir:Hid (isDirS s→slotsTo s 4):=(slotsTo_all hs).1
 have HS:=zh hs
 clear hs
 go_enter Tryz.func152,Tryz.ntmps152
 go_wp2
 go_loopw [5,6,7,8] (fun i _ _ _ wr=>∃k:Nat,k≤4∧i = .int .i64 (k:Int)∧Hid (slotsTo s k)∧Hid (RDir w wr s k)) (fun i _ _ _ _=>4-(intOf i).toNat)
 case atStart=>exact⟨0,Nat.zero_le _,rfl,slotsTo_zero s,zh (rdir_start rfl)⟩
 case round=>
  obtain⟨k,hk,rfl,HSl,HR⟩:=hrel
  by_cases hlt:k<4
  ·obtain⟨T,c,N,n,hT,hP⟩:=HPc.out k hlt
   have hk4:(k:Int)<4:=by omega
   obtain⟨a,ha⟩:=zx (k*16)
   have e1:IntKind.i64.wrap ((k:Int)*16)=(a:Int):=by rw[IntWalk.i64_in _ (by omega)]; omega
   have e2:IntKind.i64.wrap ((a:Int)+16)=((a+16:Nat):Int):=by rw[IntWalk.i64_in _ (by omega)]; omega
   rw[ha] at hT
   have hx2:∀W:World,(Instr.index 9 (.string T) (.int .i64 2)).run Tryz.prog W = .ok (.int .u8 (c.toNat:Int)) W:=fun W=>by
    have:=text_lit W hP.lenB
    rw[hP.byte] at this
    exact this
   have hsz:=hP.size
   have hN:=hP.name
   have hlong:=hP.long
   have hok:=hP.ok
   have hsl:=hP.slot
   have hnb:=hP.numB
   have hcb:c.toNat<256:=UInt8.toNat_lt c
   obtain⟨cn,hcn⟩:=zx (c.toNat)
   rw[hcn] at hx2 hN hlong hok hcb
   have hT16:(T.size:Int)=16:=by rw[hsz]; rfl
   have hb1:((a+16:Nat):Int)≤(s.size:Int):=by rw[HS.out]; omega
   have hnum:=fun W:World=>q33z W T 0 2 (by decide) (by omega) (by omega)
   have hnT:(numAt T 0 2:Int)=n:=by
    have h1:=hP.num
    have h2:getN s ((k*16:Nat):Int) 2=(numAt s (k*16) 2:Int):=by
     have hc:getC s ((k*16:Nat):Int) 2=0:=by
      unfold getC
      rw[if_neg (by simp[HS.out]),if_pos ⟨by decide,by refine⟨by omega,by omega,by omega,by omega⟩⟩]
     unfold getN
     rw[if_pos hc]
     rfl
    rw[←h1,h2]
    unfold numAt
    rw[←hT,Lib.extract_data]
    congr 2
    rw[List.drop_zero,←ha,List.take_take,show min 2 (k*16+16-k*16)=2 by omega]
   rw[hnT] at hnum
   change ∀W,Calls _ _ #[_,.int .i64 0,.int .i64 2] _ _ at hnum
   have HNb:=zh hnb
   have HA:=zh ha
   have HT:=zh hT
   have HNUM:=zh hnum
   have HOK:=zh hok
   have HSL:=zh hsl
   have HLONG:=zh hlong
   clear hnum hok hsl hlong
   by_cases hc13:cn≤13
   rotate_left
   ·have HN:=zh (HNo.out (fun h=>hc13 (HOK.out.1 ((HDir.out h) k hlt).1).1))
    obtain⟨wq,hwq⟩:∃W,W=wr:=⟨_,rfl⟩
    subst hwq
    have HRQ:=HR
    have hgt:(13:Int)<(cn:Int):=by omega
    clear hP ha hcn hsz hnb hN hT16 hnT
    obtain⟨hq0,hq1,hbq⟩:=HRQ.out
    have p0:wq.cell? ⟨w.heap.size,0,none⟩=some (.int .i64 0):=cellOf hq0 rfl
    have p1:wq.cell? ⟨w.heap.size,1,none⟩=some (.string ⟨#[]⟩):=cellOf hq0 rfl
    have p2:wq.cell? ⟨w.heap.size,2,none⟩=some (.int .i64 0):=cellOf hq0 rfl
    have p3:wq.cell? ⟨w.heap.size,3,none⟩=some (.string ⟨#[]⟩):=cellOf hq0 rfl
    have p4:wq.cell? ⟨w.heap.size,4,none⟩=some (.int .i64 0):=cellOf hq0 rfl
    have p5:wq.cell? ⟨w.heap.size,5,none⟩=some (.string ⟨#[]⟩):=cellOf hq0 rfl
    have p6:wq.cell? ⟨w.heap.size,6,none⟩=some (.int .i64 0):=cellOf hq0 rfl
    have p7:wq.cell? ⟨w.heap.size,7,none⟩=some (.string ⟨#[]⟩):=cellOf hq0 rfl
    have v0:wq.frozen? ⟨w.heap.size,0,none⟩=false:=freeOf hq0
    have v1:wq.frozen? ⟨w.heap.size,1,none⟩=false:=freeOf hq0
    have v2:wq.frozen? ⟨w.heap.size,2,none⟩=false:=freeOf hq0
    have v3:wq.frozen? ⟨w.heap.size,3,none⟩=false:=freeOf hq0
    have v4:wq.frozen? ⟨w.heap.size,4,none⟩=false:=freeOf hq0
    have v5:wq.frozen? ⟨w.heap.size,5,none⟩=false:=freeOf hq0
    have v6:wq.frozen? ⟨w.heap.size,6,none⟩=false:=freeOf hq0
    have v7:wq.frozen? ⟨w.heap.size,7,none⟩=false:=freeOf hq0
    have HQ0:=zh hq0
    have HBQ:=zh hbq
    clear hq0 hq1 hbq
    go_wp2
    obtain⟨Wf,hWf⟩:=zx (sets wq w.heap.size 0 [.int .i64 0,.string ⟨#[]⟩,.int .i64 0,.string ⟨#[]⟩,.int .i64 0,.string ⟨#[]⟩,.int .i64 0,.string ⟨#[]⟩])
    have hw4:=sets_all (vs:=[.int .i64 0,.string ⟨#[]⟩,.int .i64 0,.string ⟨#[]⟩,.int .i64 0,.string ⟨#[]⟩,.int .i64 0,.string ⟨#[]⟩]) HQ0.out rfl
    have hb4:=sets_below (B:=w.heap.size) (b:=w.heap.size) (Nat.le_refl _) [.int .i64 0,.string ⟨#[]⟩,.int .i64 0,.string ⟨#[]⟩,.int .i64 0,.string ⟨#[]⟩,.int .i64 0,.string ⟨#[]⟩] 0 _ HBQ.out
    rw[hWf] at hw4 hb4
    show bodyPost _ _ _ _ _ (sets wq w.heap.size 0 [.int .i64 0,.string ⟨#[]⟩,.int .i64 0,.string ⟨#[]⟩,.int .i64 0,.string ⟨#[]⟩,.int .i64 0,.string ⟨#[]⟩])
    rw[hWf]
    clear p0 v0 p1 v1 p2 v2 p3 v3 p4 v4 p5 v5 p6 v6 p7 v7
    have y0:=zc 0 hw4
    have y1:=zc 1 hw4
    have y2:=zc 2 hw4
    have y3:=zc 3 hw4
    have y4:=zc 4 hw4
    have y5:=zc 5 hw4
    have y6:=zc 6 hw4
    have y7:=zc 7 hw4
    refine bodyPost_ret (v:=.tuple #[.agg #[.int .i64 0,.string ⟨#[]⟩,.int .i64 0,.string ⟨#[]⟩,.int .i64 0,.string ⟨#[]⟩,.int .i64 0,.string ⟨#[]⟩],.int .i64 70]) (by simp[results,Tryz.results152,go_sem,y0,y1,y2,y3,y4,y5,y6,y7]) rfl ?_
    exact HN.out _ hb4
   ·have hgt:¬(13:Int)<(cn:Int):=by omega
    have hln:=HLONG.out hc13
    have hNs:N.size≤13:=by omega
    have e3:IntKind.i64.wrap (3+(cn:Int))=3+(cn:Int):=IntWalk.i64_in _ (by omega)
    have g1:(0:Int)≤3+(cn:Int):=by omega
    have g2:3+(cn:Int)≤16:=by omega
    have g3:(3:Int)≤3+(cn:Int):=by omega
    have g4:(3+(cn:Int)).toNat=3+cn:=by omega
    have hmay:=fun(W:World)=>remay_any W ⟨n,N⟩ (by show N.size≤maxLen; unfold maxLen; omega)
    have htx:=fun W:World=>retext_any W n.toNat N hNs
    rw[Int.toNat_of_nonneg hnb.1] at htx
    unfold eV at hmay
    simp only at hmay
    obtain⟨TS,hTS⟩:=zx (ofL (slotL ⟨n,N⟩))
    rw[hTS] at htx HOK
    have HMd:Hid ((decide (Sp.Entry.may ⟨n,N⟩)=true↔Sp.Entry.may ⟨n,N⟩)):=decide_eq_true_iff
    obtain⟨md,hmd⟩:=zx (decide (Sp.Entry.may ⟨n,N⟩))
    rw[hmd] at hmay HMd
    have hz:=HR.out.2.1
    have hl8:(dirA s k).size=8:=rfl
    have n0:=cellOf (k:=k*2) hz (Array.getElem?_eq_getElem (show k*2<(dirA s k).size by rw[hl8]; omega))
    have n1:=cellOf (k:=k*2+1) hz (Array.getElem?_eq_getElem (show k*2+1<(dirA s k).size by rw[hl8]; omega))
    have x0:wr.frozen? ⟨w.heap.size+1,k*2,none⟩=false:=freeOf hz
    have x1:wr.frozen? ⟨w.heap.size+1,k*2+1,none⟩=false:=freeOf hz
    obtain⟨o0,ho0⟩:=zx ((dirA s k)[k*2]'(by rw[hl8]; omega))
    obtain⟨o1,ho1⟩:=zx ((dirA s k)[k*2+1]'(by rw[hl8]; omega))
    rw[ho0] at n0
    rw[ho1] at n1
    have HNext:=zh (rdir_next HR.out hlt HSL.out)
    have HMAY:=zh hmay
    have HTX:=zh htx
    clear hmay htx
    clear hmd hTS hP ha hcn hnb hz hl8 ho0 ho1 hnT
    go_upto_region 11 with fail
    rw[HT.out]
    go_cut [] (fun wx=>Hid (RDir w wx s (k+1)))
    case first=>
     go_region_law (first
      | (go_simp
         go_at_call 108
         refine(HNUM.out _).mono ?_
         rintro e w1 ⟨rfl,rfl⟩))
     all_goals
      go_wp2
      go_meet
      case rel=>exact⟨HNext.out.1,HNext.out.2.1,blD HNext.out.2.2⟩
    case rest=>
    have HR2:Hid (RDir w wc s (k+1)):=hcut
    clear hcut n0 n1 x0 x1 HNext
    obtain⟨d0,d1⟩:=dir_cell (s:=s) (show k<k+1 by omega) (by omega)
    rw[HSL.out] at d0 d1
    have k0:=cellOf (k:=k*2) HR2.out.2.1 d0
    have k1:=cellOf (k:=k*2+1) HR2.out.2.1 d1
    have HD0:=zh d0
    have HD1:=zh d1
    clear d0 d1
    go_wp2_with fail
    refine(HMAY.out _).mono ?_
    rintro e w2 ⟨rfl,hb2⟩
    have HR3:=zh (rdir_below HR2.out hb2)
    clear hb2 k0 k1
    cases md
    ·have HN:=zh (HNo.out (fun h=>by
      have:=(HOK.out.1 ((HDir.out h) k hlt).1).2.1
      exact absurd (HMd.out.2 this) (by decide)))
     obtain⟨wq,hwq⟩:∃W,W=w2:=⟨_,rfl⟩
     subst hwq
     have HRQ:=HR3
     obtain⟨hq0,hq1,hbq⟩:=HRQ.out
     have p0:wq.cell? ⟨w.heap.size,0,none⟩=some (.int .i64 0):=cellOf hq0 rfl
     have p1:wq.cell? ⟨w.heap.size,1,none⟩=some (.string ⟨#[]⟩):=cellOf hq0 rfl
     have p2:wq.cell? ⟨w.heap.size,2,none⟩=some (.int .i64 0):=cellOf hq0 rfl
     have p3:wq.cell? ⟨w.heap.size,3,none⟩=some (.string ⟨#[]⟩):=cellOf hq0 rfl
     have p4:wq.cell? ⟨w.heap.size,4,none⟩=some (.int .i64 0):=cellOf hq0 rfl
     have p5:wq.cell? ⟨w.heap.size,5,none⟩=some (.string ⟨#[]⟩):=cellOf hq0 rfl
     have p6:wq.cell? ⟨w.heap.size,6,none⟩=some (.int .i64 0):=cellOf hq0 rfl
     have p7:wq.cell? ⟨w.heap.size,7,none⟩=some (.string ⟨#[]⟩):=cellOf hq0 rfl
     have v0:wq.frozen? ⟨w.heap.size,0,none⟩=false:=freeOf hq0
     have v1:wq.frozen? ⟨w.heap.size,1,none⟩=false:=freeOf hq0
     have v2:wq.frozen? ⟨w.heap.size,2,none⟩=false:=freeOf hq0
     have v3:wq.frozen? ⟨w.heap.size,3,none⟩=false:=freeOf hq0
     have v4:wq.frozen? ⟨w.heap.size,4,none⟩=false:=freeOf hq0
     have v5:wq.frozen? ⟨w.heap.size,5,none⟩=false:=freeOf hq0
     have v6:wq.frozen? ⟨w.heap.size,6,none⟩=false:=freeOf hq0
     have v7:wq.frozen? ⟨w.heap.size,7,none⟩=false:=freeOf hq0
     have HQ0:=zh hq0
     have HBQ:=zh hbq
     clear hq0 hq1 hbq
     go_wp2
     obtain⟨Wf,hWf⟩:=zx (sets wq w.heap.size 0 [.int .i64 0,.string ⟨#[]⟩,.int .i64 0,.string ⟨#[]⟩,.int .i64 0,.string ⟨#[]⟩,.int .i64 0,.string ⟨#[]⟩])
     have hw4:=sets_all (vs:=[.int .i64 0,.string ⟨#[]⟩,.int .i64 0,.string ⟨#[]⟩,.int .i64 0,.string ⟨#[]⟩,.int .i64 0,.string ⟨#[]⟩]) HQ0.out rfl
     have hb4:=sets_below (B:=w.heap.size) (b:=w.heap.size) (Nat.le_refl _) [.int .i64 0,.string ⟨#[]⟩,.int .i64 0,.string ⟨#[]⟩,.int .i64 0,.string ⟨#[]⟩,.int .i64 0,.string ⟨#[]⟩] 0 _ HBQ.out
     rw[hWf] at hw4 hb4
     show bodyPost _ _ _ _ _ (sets wq w.heap.size 0 [.int .i64 0,.string ⟨#[]⟩,.int .i64 0,.string ⟨#[]⟩,.int .i64 0,.string ⟨#[]⟩,.int .i64 0,.string ⟨#[]⟩])
     rw[hWf]
     clear p0 v0 p1 v1 p2 v2 p3 v3 p4 v4 p5 v5 p6 v6 p7 v7
     have y0:=zc 0 hw4
     have y1:=zc 1 hw4
     have y2:=zc 2 hw4
     have y3:=zc 3 hw4
     have y4:=zc 4 hw4
     have y5:=zc 5 hw4
     have y6:=zc 6 hw4
     have y7:=zc 7 hw4
     refine bodyPost_ret (v:=.tuple #[.agg #[.int .i64 0,.string ⟨#[]⟩,.int .i64 0,.string ⟨#[]⟩,.int .i64 0,.string ⟨#[]⟩,.int .i64 0,.string ⟨#[]⟩],.int .i64 70]) (by simp[results,Tryz.results152,go_sem,y0,y1,y2,y3,y4,y5,y6,y7]) rfl ?_
     exact HN.out _ hb4
    have k0:=cellOf (k:=k*2) HR3.out.2.1 HD0.out
    have k1:=cellOf (k:=k*2+1) HR3.out.2.1 HD1.out
    go_wp2_with fail
    clear k0 k1
    refine(HTX.out _).mono ?_
    rintro e w3 ⟨rfl,hb3⟩
    have HR4:=zh (rdir_below HR3.out hb3)
    have q:=list_eq TS T
    clear hb3
    by_cases hTT:TS=T
    rotate_left
    ·have f:(TS.toList == T.toList)=false:=q.trans (decide_eq_false hTT)
     have HN:=zh (HNo.out (fun h=>hTT (HOK.out.1 ((HDir.out h) k hlt).1).2.2))
     obtain⟨wq,hwq⟩:∃W,W=w3:=⟨_,rfl⟩
     subst hwq
     have HRQ:=HR4
     clear q hTT
     obtain⟨hq0,hq1,hbq⟩:=HRQ.out
     have p0:wq.cell? ⟨w.heap.size,0,none⟩=some (.int .i64 0):=cellOf hq0 rfl
     have p1:wq.cell? ⟨w.heap.size,1,none⟩=some (.string ⟨#[]⟩):=cellOf hq0 rfl
     have p2:wq.cell? ⟨w.heap.size,2,none⟩=some (.int .i64 0):=cellOf hq0 rfl
     have p3:wq.cell? ⟨w.heap.size,3,none⟩=some (.string ⟨#[]⟩):=cellOf hq0 rfl
     have p4:wq.cell? ⟨w.heap.size,4,none⟩=some (.int .i64 0):=cellOf hq0 rfl
     have p5:wq.cell? ⟨w.heap.size,5,none⟩=some (.string ⟨#[]⟩):=cellOf hq0 rfl
     have p6:wq.cell? ⟨w.heap.size,6,none⟩=some (.int .i64 0):=cellOf hq0 rfl
     have p7:wq.cell? ⟨w.heap.size,7,none⟩=some (.string ⟨#[]⟩):=cellOf hq0 rfl
     have v0:wq.frozen? ⟨w.heap.size,0,none⟩=false:=freeOf hq0
     have v1:wq.frozen? ⟨w.heap.size,1,none⟩=false:=freeOf hq0
     have v2:wq.frozen? ⟨w.heap.size,2,none⟩=false:=freeOf hq0
     have v3:wq.frozen? ⟨w.heap.size,3,none⟩=false:=freeOf hq0
     have v4:wq.frozen? ⟨w.heap.size,4,none⟩=false:=freeOf hq0
     have v5:wq.frozen? ⟨w.heap.size,5,none⟩=false:=freeOf hq0
     have v6:wq.frozen? ⟨w.heap.size,6,none⟩=false:=freeOf hq0
     have v7:wq.frozen? ⟨w.heap.size,7,none⟩=false:=freeOf hq0
     have HQ0:=zh hq0
     have HBQ:=zh hbq
     clear hq0 hq1 hbq
     go_wp2
     obtain⟨Wf,hWf⟩:=zx (sets wq w.heap.size 0 [.int .i64 0,.string ⟨#[]⟩,.int .i64 0,.string ⟨#[]⟩,.int .i64 0,.string ⟨#[]⟩,.int .i64 0,.string ⟨#[]⟩])
     have hw4:=sets_all (vs:=[.int .i64 0,.string ⟨#[]⟩,.int .i64 0,.string ⟨#[]⟩,.int .i64 0,.string ⟨#[]⟩,.int .i64 0,.string ⟨#[]⟩]) HQ0.out rfl
     have hb4:=sets_below (B:=w.heap.size) (b:=w.heap.size) (Nat.le_refl _) [.int .i64 0,.string ⟨#[]⟩,.int .i64 0,.string ⟨#[]⟩,.int .i64 0,.string ⟨#[]⟩,.int .i64 0,.string ⟨#[]⟩] 0 _ HBQ.out
     rw[hWf] at hw4 hb4
     show bodyPost _ _ _ _ _ (sets wq w.heap.size 0 [.int .i64 0,.string ⟨#[]⟩,.int .i64 0,.string ⟨#[]⟩,.int .i64 0,.string ⟨#[]⟩,.int .i64 0,.string ⟨#[]⟩])
     rw[hWf]
     clear p0 v0 p1 v1 p2 v2 p3 v3 p4 v4 p5 v5 p6 v6 p7 v7
     have y0:=zc 0 hw4
     have y1:=zc 1 hw4
     have y2:=zc 2 hw4
     have y3:=zc 3 hw4
     have y4:=zc 4 hw4
     have y5:=zc 5 hw4
     have y6:=zc 6 hw4
     have y7:=zc 7 hw4
     refine bodyPost_ret (v:=.tuple #[.agg #[.int .i64 0,.string ⟨#[]⟩,.int .i64 0,.string ⟨#[]⟩,.int .i64 0,.string ⟨#[]⟩,.int .i64 0,.string ⟨#[]⟩],.int .i64 70]) (by simp[results,Tryz.results152,go_sem,y0,y1,y2,y3,y4,y5,y6,y7]) rfl ?_
     exact HN.out _ hb4
    have f:(TS.toList == T.toList)=true:=q.trans (decide_eq_true hTT)
    have HSok:Hid (slotOk s k):=HOK.out.2 ⟨hc13,HMd.out.1 (by first | rfl | trivial),hTT⟩
    have hne:N.toList.isEmpty=decide (N=⟨#[]⟩):=by
     rw[←list_eq N ⟨#[]⟩,show(⟨#[]⟩:ByteArray).toList=[] by rw[Lib.toList_data]]
     cases N.toList <;> rfl
    have HNe:=zh hne
    clear hne
    clear q hTT
    go_wp2
    go_loopw [8] (fun i wr=>∃j:Nat,j≤k∧i = .int .i64 (j:Int)∧Hid (∀q,q<j→(slotOf s q).name=N→N.size=0)∧Hid (RDir w wr s (k+1))) (fun i _=>k-(intOf i).toNat)
    case atStart=>exact⟨0,Nat.zero_le _,rfl,fun q h=>absurd h (Nat.not_lt_zero _),HR4⟩
    case round=>
     obtain⟨j,hj,rfl,HAj,HRj⟩:=hrel
     by_cases hjk:j<k
     ·have f3:decide ((j:Int)<(k:Int))=true:=decide_eq_true (by omega)
      obtain⟨d0,d1⟩:=dir_cell (s:=s) (show j<k+1 by omega) (by omega)
      obtain⟨⟨n2,N2⟩,hx⟩:∃x,slotOf s j=x:=⟨_,rfl⟩
      rw[hx] at d1
      have hkc:wr.cell? ⟨w.heap.size+1,j*2+1,none⟩=some (.string N2):=cellOf HRj.out.2.1 d1
      have hkd:wr.cell? ⟨w.heap.size+1,k*2+1,none⟩=some (.string N):=cellOf HRj.out.2.1 HD1.out
      have hS:(fun W:World=>W.cell? ⟨w.heap.size+1,j*2+1,none⟩=some (.string N2)∧W.cell? ⟨w.heap.size+1,k*2+1,none⟩=some (.string N)) wr.drew:=⟨hkc,hkd⟩
      have hj4:(j:Int)<4:=by omega
      have hj0:(0:Int)≤(j:Int):=by omega
      have hk0:(0:Int)≤(k:Int):=by omega
      have q2:=list_eq N2 N
      have HX:=zh hx
      clear d0 d1 hkc hkd hx
      by_cases hNN:N2=N
      ·have fq:(N2.toList == N.toList)=true:=q2.trans (decide_eq_true hNN)
       by_cases hNe:N=⟨#[]⟩
       ·have fe:N.toList.isEmpty=true:=HNe.out.trans (decide_eq_true hNe)
        have HA2:Hid (∀q,q<j+1→(slotOf s q).name=N→N.size=0):=fun q _ _=>by rw[hNe]; rfl
        clear q2 hNN hNe
        go_upto_region 17 with fail
        refine wp_region_held_drew (S:=fun W:World=>W.cell? ⟨w.heap.size+1,j*2+1,none⟩=some (.string N2)∧W.cell? ⟨w.heap.size+1,k*2+1,none⟩=some (.string N)) (by kernel_rfl) hS (fun hHeld=>?_)
        refine tkH 0 ?_; simp only[Act.put,ps0]
        refine tkH 1 ?_; simp only[Act.put,ps0]
        refine tkH 2 ?_; simp only[Act.put,ps0]
        refine tkH 3 ?_; simp only[Act.put,ps0]
        refine tkH 4 ?_; simp only[Act.put,ps0]
        refine tkH 5 ?_; simp only[Act.put,ps0]
        refine tkH 6 ?_; simp only[Act.put,ps0]
        refine tkH 7 ?_; simp only[Act.put,ps0]
        refine tkH 8 ?_; simp only[Act.put,ps0]
        refine tkH 9 ?_; simp only[Act.put,ps0]
        refine tkH 10 ?_; simp only[Act.put,ps0]
        refine tkH 11 ?_; simp only[Act.put,ps0]
        refine tkH 12 ?_; simp only[Act.put,ps0]
        refine tkH 13 ?_; simp only[Act.put,ps0]
        refine tkH 14 ?_; simp only[Act.put,ps0]
        refine tkH 15 ?_; simp only[Act.put,ps0]
        refine wpAnyH_done (by kernel_rfl) ?_ _
        clear hHeld hS
        go_wp2
        go_roundw
        case rel=>exact⟨j+1,by omega,by go_num,HA2,HRj.out.1,HRj.out.2.1,blD HRj.out.2.2⟩
        case measure=>simp[intOf]; omega
       ·have fe:N.toList.isEmpty=false:=HNe.out.trans (decide_eq_false hNe)
        have HN:=zh (HNo.out (fun h=>by
         have h4:=((HDir.out h) k hlt).2 j hjk
         rw[HX.out,HSL.out] at h4
         have h5:=h4 hNN
         exact hNe (ByteArray.ext (Array.eq_empty_of_size_eq_zero h5))))
        clear q2 hNN hNe
        go_upto_region 17 with fail
        refine wp_region_held_drew (S:=fun W:World=>W.cell? ⟨w.heap.size+1,j*2+1,none⟩=some (.string N2)∧W.cell? ⟨w.heap.size+1,k*2+1,none⟩=some (.string N)) (by kernel_rfl) hS (fun hHeld=>?_)
        refine tkH 0 ?_; simp only[Act.put,ps0]
        refine tkH 1 ?_; simp only[Act.put,ps0]
        refine tkH 2 ?_; simp only[Act.put,ps0]
        refine tkH 3 ?_; simp only[Act.put,ps0]
        refine tkH 4 ?_; simp only[Act.put,ps0]
        refine tkH 5 ?_; simp only[Act.put,ps0]
        refine tkH 6 ?_; simp only[Act.put,ps0]
        refine tkH 7 ?_; simp only[Act.put,ps0]
        refine tkH 8 ?_; simp only[Act.put,ps0]
        refine tkH 9 ?_; simp only[Act.put,ps0]
        refine tkH 10 ?_; simp only[Act.put,ps0]
        refine tkH 11 ?_; simp only[Act.put,ps0]
        refine tkH 12 ?_; simp only[Act.put,ps0]
        refine tkH 13 ?_; simp only[Act.put,ps0]
        refine tkH 14 ?_; simp only[Act.put,ps0]
        refine tkH 15 ?_; simp only[Act.put,ps0]
        refine wpAnyH_done (by kernel_rfl) ?_ _
        clear hHeld hS
        have HRQ':Hid (RDir w wr.drew s (k+1)):=⟨HRj.out.1,HRj.out.2.1,blD HRj.out.2.2⟩
        obtain⟨wq,hwq⟩:∃W,W=wr.drew:=⟨_,rfl⟩
        rw[←hwq] at HRQ' ⊢
        have HRQ:=HRQ'
        clear hwq
        obtain⟨hq0,hq1,hbq⟩:=HRQ.out
        have p0:wq.cell? ⟨w.heap.size,0,none⟩=some (.int .i64 0):=cellOf hq0 rfl
        have p1:wq.cell? ⟨w.heap.size,1,none⟩=some (.string ⟨#[]⟩):=cellOf hq0 rfl
        have p2:wq.cell? ⟨w.heap.size,2,none⟩=some (.int .i64 0):=cellOf hq0 rfl
        have p3:wq.cell? ⟨w.heap.size,3,none⟩=some (.string ⟨#[]⟩):=cellOf hq0 rfl
        have p4:wq.cell? ⟨w.heap.size,4,none⟩=some (.int .i64 0):=cellOf hq0 rfl
        have p5:wq.cell? ⟨w.heap.size,5,none⟩=some (.string ⟨#[]⟩):=cellOf hq0 rfl
        have p6:wq.cell? ⟨w.heap.size,6,none⟩=some (.int .i64 0):=cellOf hq0 rfl
        have p7:wq.cell? ⟨w.heap.size,7,none⟩=some (.string ⟨#[]⟩):=cellOf hq0 rfl
        have v0:wq.frozen? ⟨w.heap.size,0,none⟩=false:=freeOf hq0
        have v1:wq.frozen? ⟨w.heap.size,1,none⟩=false:=freeOf hq0
        have v2:wq.frozen? ⟨w.heap.size,2,none⟩=false:=freeOf hq0
        have v3:wq.frozen? ⟨w.heap.size,3,none⟩=false:=freeOf hq0
        have v4:wq.frozen? ⟨w.heap.size,4,none⟩=false:=freeOf hq0
        have v5:wq.frozen? ⟨w.heap.size,5,none⟩=false:=freeOf hq0
        have v6:wq.frozen? ⟨w.heap.size,6,none⟩=false:=freeOf hq0
        have v7:wq.frozen? ⟨w.heap.size,7,none⟩=false:=freeOf hq0
        have HQ0:=zh hq0
        have HBQ:=zh hbq
        clear hq0 hq1 hbq
        go_wp2
        obtain⟨Wf,hWf⟩:=zx (sets wq w.heap.size 0 [.int .i64 0,.string ⟨#[]⟩,.int .i64 0,.string ⟨#[]⟩,.int .i64 0,.string ⟨#[]⟩,.int .i64 0,.string ⟨#[]⟩])
        have hw4:=sets_all (vs:=[.int .i64 0,.string ⟨#[]⟩,.int .i64 0,.string ⟨#[]⟩,.int .i64 0,.string ⟨#[]⟩,.int .i64 0,.string ⟨#[]⟩]) HQ0.out rfl
        have hb4:=sets_below (B:=w.heap.size) (b:=w.heap.size) (Nat.le_refl _) [.int .i64 0,.string ⟨#[]⟩,.int .i64 0,.string ⟨#[]⟩,.int .i64 0,.string ⟨#[]⟩,.int .i64 0,.string ⟨#[]⟩] 0 _ HBQ.out
        rw[hWf] at hw4 hb4
        show bodyPost _ _ _ _ _ (sets wq w.heap.size 0 [.int .i64 0,.string ⟨#[]⟩,.int .i64 0,.string ⟨#[]⟩,.int .i64 0,.string ⟨#[]⟩,.int .i64 0,.string ⟨#[]⟩])
        rw[hWf]
        clear p0 v0 p1 v1 p2 v2 p3 v3 p4 v4 p5 v5 p6 v6 p7 v7
        have y0:=zc 0 hw4
        have y1:=zc 1 hw4
        have y2:=zc 2 hw4
        have y3:=zc 3 hw4
        have y4:=zc 4 hw4
        have y5:=zc 5 hw4
        have y6:=zc 6 hw4
        have y7:=zc 7 hw4
        refine bodyPost_ret (v:=.tuple #[.agg #[.int .i64 0,.string ⟨#[]⟩,.int .i64 0,.string ⟨#[]⟩,.int .i64 0,.string ⟨#[]⟩,.int .i64 0,.string ⟨#[]⟩],.int .i64 70]) (by simp[results,Tryz.results152,go_sem,y0,y1,y2,y3,y4,y5,y6,y7]) rfl ?_
        exact HN.out _ hb4
      ·have fq:(N2.toList == N.toList)=false:=q2.trans (decide_eq_false hNN)
       have HA2:Hid (∀q,q<j+1→(slotOf s q).name=N→N.size=0):=fun q hq hqN=>by
        by_cases e:q<j
        ·exact HAj.out q e hqN
        ·obtain rfl:q=j:=by omega
         rw[HX.out] at hqN
         exact absurd hqN hNN
       clear q2 hNN
       go_upto_region 17 with fail
       refine wp_region_held_drew (S:=fun W:World=>W.cell? ⟨w.heap.size+1,j*2+1,none⟩=some (.string N2)∧W.cell? ⟨w.heap.size+1,k*2+1,none⟩=some (.string N)) (by kernel_rfl) hS (fun hHeld=>?_)
       refine tkH 0 ?_; simp only[Act.put,ps0]
       refine tkH 1 ?_; simp only[Act.put,ps0]
       refine tkH 2 ?_; simp only[Act.put,ps0]
       refine tkH 3 ?_; simp only[Act.put,ps0]
       refine tkH 4 ?_; simp only[Act.put,ps0]
       refine tkH 5 ?_; simp only[Act.put,ps0]
       refine tkH 6 ?_; simp only[Act.put,ps0]
       refine tkH 7 ?_; simp only[Act.put,ps0]
       refine tkH 8 ?_; simp only[Act.put,ps0]
       refine tkH 9 ?_; simp only[Act.put,ps0]
       refine wpAnyH_take (i:=10) (v:=undef) rfl (by kernel_rfl) (by kernel_rfl) (by kernel_rfl) (fun _ _ _ h=>h) (Or.inr ⟨by rfl,rfl⟩) hHeld ?_
       simp only[Act.put,ps0]
       refine wpAnyH_take (i:=11) (v:=undef) rfl (by kernel_rfl) (by kernel_rfl) (by kernel_rfl) (fun _ _ _ h=>h) (Or.inr ⟨by rfl,rfl⟩) hHeld ?_
       simp only[Act.put,ps0]
       refine wpAnyH_take (i:=12) (v:=undef) rfl (by kernel_rfl) (by kernel_rfl) (by kernel_rfl) (fun _ _ _ h=>h) (Or.inr ⟨by rfl,rfl⟩) hHeld ?_
       simp only[Act.put,ps0]
       refine wpAnyH_take (i:=13) (v:=undef) rfl (by kernel_rfl) (by kernel_rfl) (by kernel_rfl) (fun _ _ _ h=>h) (Or.inr ⟨by rfl,rfl⟩) hHeld ?_
       simp only[Act.put,ps0]
       refine wpAnyH_take (i:=14) (v:=undef) rfl (by kernel_rfl) (by kernel_rfl) (by kernel_rfl) (fun _ _ _ h=>h) (Or.inr ⟨by rfl,rfl⟩) hHeld ?_
       simp only[Act.put,ps0]
       refine tkH 15 ?_; simp only[Act.put,ps0]
       refine wpAnyH_done (by kernel_rfl) ?_ _
       clear hHeld hS
       go_wp2
       go_roundw
       case rel=>exact⟨j+1,by omega,by go_num,HA2,HRj.out.1,HRj.out.2.1,blD HRj.out.2.2⟩
       case measure=>simp[intOf]; omega
     ·have f3:decide ((j:Int)<(k:Int))=false:=decide_eq_false (by omega)
      obtain rfl:j=k:=by omega
      have HSn:Hid (slotsTo s (j+1)):=slotsTo_step HSl.out HSok.out (by rw[HSL.out]; exact HAj.out)
      go_wp2
      go_roundw
      case rel=>exact⟨j+1,by omega,by go_num,HSn,HRj⟩
      case measure=>simp[intOf]; omega
  ·obtain rfl:k=4:=by omega
   have HY:=zh (HYes.out (HAll.out HSl.out))
   obtain⟨hq0,hq1,hbq⟩:=HR.out
   have y0:wr.cell? ⟨w.heap.size+1,0,none⟩=some (.int .i64 (slotOf s 0).inode):=cellOf hq1 rfl
   have p0:wr.cell? ⟨w.heap.size,0,none⟩=some (.int .i64 0):=cellOf hq0 rfl
   have v0:wr.frozen? ⟨w.heap.size,0,none⟩=false:=freeOf hq0
   have y1:wr.cell? ⟨w.heap.size+1,1,none⟩=some (.string (slotOf s 0).name):=cellOf hq1 rfl
   have p1:wr.cell? ⟨w.heap.size,1,none⟩=some (.string ⟨#[]⟩):=cellOf hq0 rfl
   have v1:wr.frozen? ⟨w.heap.size,1,none⟩=false:=freeOf hq0
   have y2:wr.cell? ⟨w.heap.size+1,2,none⟩=some (.int .i64 (slotOf s 1).inode):=cellOf hq1 rfl
   have p2:wr.cell? ⟨w.heap.size,2,none⟩=some (.int .i64 0):=cellOf hq0 rfl
   have v2:wr.frozen? ⟨w.heap.size,2,none⟩=false:=freeOf hq0
   have y3:wr.cell? ⟨w.heap.size+1,3,none⟩=some (.string (slotOf s 1).name):=cellOf hq1 rfl
   have p3:wr.cell? ⟨w.heap.size,3,none⟩=some (.string ⟨#[]⟩):=cellOf hq0 rfl
   have v3:wr.frozen? ⟨w.heap.size,3,none⟩=false:=freeOf hq0
   have y4:wr.cell? ⟨w.heap.size+1,4,none⟩=some (.int .i64 (slotOf s 2).inode):=cellOf hq1 rfl
   have p4:wr.cell? ⟨w.heap.size,4,none⟩=some (.int .i64 0):=cellOf hq0 rfl
   have v4:wr.frozen? ⟨w.heap.size,4,none⟩=false:=freeOf hq0
   have y5:wr.cell? ⟨w.heap.size+1,5,none⟩=some (.string (slotOf s 2).name):=cellOf hq1 rfl
   have p5:wr.cell? ⟨w.heap.size,5,none⟩=some (.string ⟨#[]⟩):=cellOf hq0 rfl
   have v5:wr.frozen? ⟨w.heap.size,5,none⟩=false:=freeOf hq0
   have y6:wr.cell? ⟨w.heap.size+1,6,none⟩=some (.int .i64 (slotOf s 3).inode):=cellOf hq1 rfl
   have p6:wr.cell? ⟨w.heap.size,6,none⟩=some (.int .i64 0):=cellOf hq0 rfl
   have v6:wr.frozen? ⟨w.heap.size,6,none⟩=false:=freeOf hq0
   have y7:wr.cell? ⟨w.heap.size+1,7,none⟩=some (.string (slotOf s 3).name):=cellOf hq1 rfl
   have p7:wr.cell? ⟨w.heap.size,7,none⟩=some (.string ⟨#[]⟩):=cellOf hq0 rfl
   have v7:wr.frozen? ⟨w.heap.size,7,none⟩=false:=freeOf hq0
   have HQ0:=zh hq0
   have HBQ:=zh hbq
   clear hq0 hq1 hbq
   go_wp2
   obtain⟨Wf,hWf⟩:=zx (sets wr w.heap.size 0 [.int .i64 (slotOf s 0).inode,.string (slotOf s 0).name,.int .i64 (slotOf s 1).inode,.string (slotOf s 1).name,.int .i64 (slotOf s 2).inode,.string (slotOf s 2).name,.int .i64 (slotOf s 3).inode,.string (slotOf s 3).name])
   have hw4:=sets_all (vs:=[.int .i64 (slotOf s 0).inode,.string (slotOf s 0).name,.int .i64 (slotOf s 1).inode,.string (slotOf s 1).name,.int .i64 (slotOf s 2).inode,.string (slotOf s 2).name,.int .i64 (slotOf s 3).inode,.string (slotOf s 3).name]) HQ0.out rfl
   have hb4:=sets_below (B:=w.heap.size) (b:=w.heap.size) (Nat.le_refl _) [.int .i64 (slotOf s 0).inode,.string (slotOf s 0).name,.int .i64 (slotOf s 1).inode,.string (slotOf s 1).name,.int .i64 (slotOf s 2).inode,.string (slotOf s 2).name,.int .i64 (slotOf s 3).inode,.string (slotOf s 3).name] 0 _ HBQ.out
   rw[hWf] at hw4 hb4
   show bodyPost _ _ _ _ _ (sets wr w.heap.size 0 [.int .i64 (slotOf s 0).inode,.string (slotOf s 0).name,.int .i64 (slotOf s 1).inode,.string (slotOf s 1).name,.int .i64 (slotOf s 2).inode,.string (slotOf s 2).name,.int .i64 (slotOf s 3).inode,.string (slotOf s 3).name])
   rw[hWf]
   clear y0 p0 v0 y1 p1 v1 y2 p2 v2 y3 p3 v3 y4 p4 v4 y5 p5 v5 y6 p6 v6 y7 p7 v7
   have y0:=zc 0 hw4
   have y1:=zc 1 hw4
   have y2:=zc 2 hw4
   have y3:=zc 3 hw4
   have y4:=zc 4 hw4
   have y5:=zc 5 hw4
   have y6:=zc 6 hw4
   have y7:=zc 7 hw4
   refine bodyPost_ret (v:=.tuple #[.agg #[.int .i64 (slotOf s 0).inode,.string (slotOf s 0).name,.int .i64 (slotOf s 1).inode,.string (slotOf s 1).name,.int .i64 (slotOf s 2).inode,.string (slotOf s 2).name,.int .i64 (slotOf s 3).inode,.string (slotOf s 3).name],.int .i64 0]) (by simp[results,Tryz.results152,go_sem,y0,y1,y2,y3,y4,y5,y6,y7]) rfl ?_
   exact HY.out _ hb4
end
