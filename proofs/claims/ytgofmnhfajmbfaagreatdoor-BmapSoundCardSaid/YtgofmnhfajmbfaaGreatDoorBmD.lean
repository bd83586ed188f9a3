import Derived.Test.YtgofmnhfajmbfaaGreatDoorBmWrite
set_option maxRecDepth 20000
set_option maxHeartbeats 4000000
namespace Go.Proofs.YtgofmnhfajmbfaaGreatDoor
open Go Go.RowKit Txt Sp
section
variable {w0 w:World} {base B Bd Bf:Nat} {D0 D:Nat→Prop} {g:Sp.Geom} {i at_:Int} {n:Sp.Inode} {t:BSt} {vb vm:Value}
theorem Fine.gone {t:BSt} (h:Fine t) (hm:t.made.length≤1000000) (g:Sp.Geom) (b:Int) (ahead:List Int):Fine (t.gone g b ahead):=h.one hm (freeBlock_one ..) _ _
theorem ffree_any (h:FM w0 base B Bd Bf D0 g i at_ n t vb vm D w) (hf:Fine t) (hm:t.made.length≤1000000) (hg:g.ok) (b behind:Int) :
 Calls Tryz.prog 101 #[pt Bf,.int .i64 b,.int .i64 behind] w (FDone w0 base B Bd Bf D0 g i at_ n vb (Foot Bf vb vm D) w (t.goneC g b [behind]) (.tuple #[]) (t.gone g b [behind])):=by
 obtain⟨W1,hW1⟩:=zx ((w.alloc (.cells #[.int .i64 behind] 3)).drew)
 have hb1:Below w.heap.size w W1:=by rw[←hW1]; exact blD (bl2 _)
 have hi1:Ints W1 (.slice (some ⟨w.heap.size,0,none⟩) 1 1) [behind]:=by rw[←hW1]; exact ints_new w behind
 have hM1:=h.below hb1
 have hfb:=afreeBlock_any hM1.core.side hf.1 (hf.last hm) hg b _ [behind] hi1 (by show(1:Nat)≤_; decide)
 unfold q55z at hfb
 have hnote:=fun w3 (hs:q18z W1 base B Bd (t.S.freeBlock g b [behind]).1 D w3)=>show Calls _ _ _ _ (FDone w0 base B Bd Bf D0 g i at_ n vb _ w3 _ _ (t.gone g b [behind])) from fnote_any (hM1.to hs) hm (t.S.freeBlock g b [behind]).2.1 (t.S.freeBlock g b [behind]).2.2
 have hS0:(w.drew.cell? ⟨Bf,0,none⟩=some (.pointer (some ⟨B,0,none⟩))∧w.drew.cell? ⟨Bf,1,none⟩=some (.int .i64 g.groups)∧w.drew.cell? ⟨Bf,2,none⟩=some (.int .i64 g.inodes)∧w.drew.cell? ⟨Bf,3,none⟩=some (.int .i64 g.blocks)):=⟨zc 0 h.core.box,zc 1 h.core.box,zc 2 h.core.box,zc 3 h.core.box⟩
 have hS1:(W1.cell? ⟨Bf,0,none⟩=some (.pointer (some ⟨B,0,none⟩))∧W1.cell? ⟨Bf,1,none⟩=some (.int .i64 g.groups)∧W1.cell? ⟨Bf,2,none⟩=some (.int .i64 g.inodes)∧W1.cell? ⟨Bf,3,none⟩=some (.int .i64 g.blocks)):=⟨zc 0 hM1.core.box,zc 1 hM1.core.box,zc 2 hM1.core.box,zc 3 hM1.core.box⟩
 have hS3:∀w3,q18z W1 base B Bd (t.S.freeBlock g b [behind]).1 D w3→(w3.cell? ⟨Bf,0,none⟩=some (.pointer (some ⟨B,0,none⟩))∧w3.cell? ⟨Bf,1,none⟩=some (.int .i64 g.groups)∧w3.cell? ⟨Bf,2,none⟩=some (.int .i64 g.inodes)∧w3.cell? ⟨Bf,3,none⟩=some (.int .i64 g.blocks)):=fun w3 hs=>by
  have g1:=(hM1.to hs).core.box
  exact⟨zc 0 g1,zc 1 g1,zc 2 g1,zc 3 g1⟩
 have hS4:∀K w3 e w4,FDone w0 base B Bd Bf D0 g i at_ n vb K w3 (t.S.freeBlock g b [behind]).2.2 (.int .i64 (t.S.freeBlock g b [behind]).2.1) (t.gone g b [behind]) e w4→(t.S.freeBlock g b [behind]).2.2=0→(w4.cell? ⟨Bf,0,none⟩=some (.pointer (some ⟨B,0,none⟩))∧w4.cell? ⟨Bf,1,none⟩=some (.int .i64 g.groups)∧w4.cell? ⟨Bf,2,none⟩=some (.int .i64 g.inodes)∧w4.cell? ⟨Bf,3,none⟩=some (.int .i64 g.blocks)):=fun K w3 e w4 hd h0=>by
  obtain⟨vm2,D2,hM2,_,_⟩:=hd.got h0
  have g1:=hM2.core.box
  exact⟨zc 0 g1,zc 1 g1,zc 2 g1,zc 3 g1⟩
 have hfin:∀w3 e w4,q18z W1 base B Bd (t.S.freeBlock g b [behind]).1 D w3→FDone w0 base B Bd Bf D0 g i at_ n vb (Foot Bf vb vm (fun j=>D j∨(W1.heap.size≤j∧j<w3.heap.size))) w3 (t.S.freeBlock g b [behind]).2.2 (.int .i64 (t.S.freeBlock g b [behind]).2.1) (t.gone g b [behind]) e w4 →
  FDone w0 base B Bd Bf D0 g i at_ n vb (Foot Bf vb vm D) w (t.S.freeBlock g b [behind]).2.2 (.int .i64 (t.S.freeBlock g b [behind]).2.1) (t.gone g b [behind]) e w4:=fun w3 e w4 hs hd=>by
  have hF:=hs.foot (Bf:=Bf) (vb:=vb) (vm:=vm)
  have hsz:w.heap.size≤W1.heap.size:=hb1.size
  exact hd.ahead (fun j hj=>(hF.2 j hj).imp_right (fun h=>Nat.le_trans hsz h)) ((Turn.of_below hb1).trans hF.1 (fun _ _ h=>h) (fun _ _ h=>h))
 unfold BSt.goneC
 obtain⟨T1,hT1⟩:=zx (t.gone g b [behind])
 rw[hT1] at hnote hS4 hfin ⊢
 clear hT1 h hf hm hM1 hb1 hi1 hg
 obtain⟨R,hR⟩:=zx (t.S.freeBlock g b [behind])
 rw[hR] at hfb hnote hS3 hS4 hfin ⊢
 clear hR
 obtain⟨S1,c1,k1⟩:=R
 dsimp only at hfb hnote hS3 hS4 hfin ⊢
 obtain⟨ga,gb,gc⟩:=g
 unfold gV at hfb
 unfold pt at hfb hnote ⊢
 dsimp only at hfb hS0 hS1 hS3 hS4
 have HS1:=zh hS1
 clear hS1
 have HFB:=zh hfb
 have HNOTE:=zh hnote
 have HS3:=zh hS3
 have HS4:=zh hS4
 have HFIN:=zh hfin
 clear hfb hnote hS3 hS4 hfin
 have hS00:=hS0
 go_enter Tryz.func101,Tryz.ntmps101
 go_wp2_with fail
 refine wp_region_held_drew (S:=(fun W=>W.cell? ⟨Bf,0,none⟩=some (.pointer (some ⟨B,0,none⟩))∧W.cell? ⟨Bf,1,none⟩=some (.int .i64 ga)∧W.cell? ⟨Bf,2,none⟩=some (.int .i64 gb)∧W.cell? ⟨Bf,3,none⟩=some (.int .i64 gc))) (by kernel_rfl) (by first | trivial | assumption) (fun hHeld=>?_)
 refine tkH 0 ?_; simp only[Act.put,ps0]
 refine tkH 1 ?_; simp only[Act.put,ps0]
 refine tkH 2 ?_; simp only[Act.put,ps0]
 refine tkH 3 ?_; simp only[Act.put,ps0]
 refine tkH 4 ?_; simp only[Act.put,ps0]
 refine tkH 5 ?_; simp only[Act.put,ps0]
 refine tkH 6 ?_; simp only[Act.put,ps0]
 refine tkH 7 ?_; simp only[Act.put,ps0]
 refine tkH 8 ?_; simp only[Act.put,ps0]
 refine tkH 9 ?_; simp only[Act.put,ps0]
 refine tkH 10 ?_; simp only[Act.put,ps0]
 refine wpAnyH_ready (rs:=[11]) (by kernel_rfl) (by simp) ?_
 refine AllReadyH.cons rfl (fun K hK=>?_) AllReadyH.nil
 try simp only[gg0]
 go_simp
 try simp only
 refine hK.out _ _ ?hkS (fun hHeld=>?_)
 case hkS=>
  exact HS1.out
 clear hK K
 try simp only[Act.put,ps0]
 refine wpAnyH_ready (rs:=[12]) (by kernel_rfl) (by simp) ?_
 refine AllReadyH.cons rfl (fun K hK=>?_) AllReadyH.nil
 try simp only[gg0]
 go_simp
 refine HFB.out.mono ?_
 rintro e w3 ⟨rfl,hs⟩
 have hs3:=HS3.out w3 hs
 have HN3:=zh (HNOTE.out w3 hs)
 have HF3:=zh (fun e w4=>HFIN.out w3 e w4 hs)
 clear hs
 try simp only
 refine hK.out _ _ ?hkS (fun hHeld=>?_)
 case hkS=>
  exact hs3
 clear hK K
 try simp only[Act.put,ps0]
 refine tkH 13 ?_; simp only[Act.put,ps0]
 refine tkH 14 ?_; simp only[Act.put,ps0]
 refine wpAnyH_ready (rs:=[15]) (by kernel_rfl) (by simp) ?_
 refine AllReadyH.cons rfl (fun K hK=>?_) AllReadyH.nil
 try simp only[gg0]
 go_simp
 refine HN3.out.mono ?_
 intro e w4 hd
 have HF4:=zh (HF3.out e w4 hd)
 have h4:=HS4.out _ _ _ _ hd
 rcases hd.1 with ⟨h0,rfl,-⟩ | ⟨h0,rfl⟩
 ·have hs4:=h4 h0
  have HF5:=zh (HF4.out.val h0 (.tuple #[]))
  clear hd h4
  try simp only
  refine hK.out _ _ ?hkS (fun hHeld=>?_)
  case hkS=>
   exact hs4
  clear hK K
  try simp only[Act.put,ps0]
  refine wpAnyH_done (by kernel_rfl) ?_ _
  go_wp2
  first | exact HF5.out | (go_end0; exact HF5.out)
 ·have HF5:=zh (HF4.out.stop h0 (.tuple #[]) T1)
  clear hd h4
  unfold stopE at HF5 ⊢
  exact⟨rfl,HF5.out⟩
end
def FMeet (w0:World) (base B Bd Bf:Nat) (D0:Nat→Prop) (g:Sp.Geom) (i at_:Int) (n:Sp.Inode) (vb:Value) (K:Nat→Prop) (w:World) (t':BSt) (c k:Int) (s:Value) (wx:World):Prop:=
 c=0∧s = .int .i64 k∧∃vm D,FM w0 base B Bd Bf D0 g i at_ n t' vb vm D wx∧(∀j,Foot Bf vb vm D j→K j∨w.heap.size≤j)∧Turn K w wx
section
variable {w0 w w1:World} {base B Bd Bf:Nat} {D0 D K K1:Nat→Prop} {g:Sp.Geom} {i at_:Int} {n:Sp.Inode} {t t':BSt} {vb vm:Value}
theorem FM.blkAt {gb L cap:Nat} (h:FM w0 base B Bd Bf D0 g i at_ n t (.slice (some ⟨gb,0,none⟩) L cap) vm D w) {q:Nat} (hq:q<t.F.blocks.length):w.cell? ⟨gb,q,none⟩=some (.int .i64 (t.F.blocks.getD q 0)):=by
 obtain⟨gb',cap',hvb,c⟩:=h.blkCell hq
 have e:=(Value.slice.inj hvb).1
 cases e
 exact c
theorem FM.capGe {gb L cap:Nat} (h:FM w0 base B Bd Bf D0 g i at_ n t (.slice (some ⟨gb,0,none⟩) L cap) vm D w):t.F.blocks.length≤cap:=by
 obtain⟨hx,⟨e,_⟩ | ⟨g',cap',cur,e,hgb,hh,hnc,_⟩⟩:=h.core.blk
 ·cases e
 ·have:=(Value.slice.inj e).2.2
  omega
theorem take_sum {l:List Int} {k:Nat} (hk:k<l.length):(l.take (k+1)).sum=(l.take k).sum+l.getD k 0:=by
 rw[q31z (List.getElem?_eq_getElem hk),List.sum_append,List.getD_eq_getElem?_getD,List.getElem?_eq_getElem hk]
 simp
theorem unlist_none {g:Sp.Geom} {i first:Int} (h:¬(t.F.more≠0∧t.F.blocks.drop 8=List.replicate 32 0)):t.unlist g i first=t∧t.unlistC g i first=0:=⟨if_neg h,if_neg h⟩
theorem unlist_some {g:Sp.Geom} {i first:Int} (h:t.F.more≠0∧t.F.blocks.drop 8=List.replicate 32 0):t.unlist g i first=(t.more g i 0 [first]).gone g t.F.more [t.S.changeN (q1z g i) 24 (putB 2 0) [first]] ∧
 t.unlistC g i first=thenC (t.moreC g i 0 [first]) ((t.more g i 0 [first]).goneC g t.F.more [t.S.changeN (q1z g i) 24 (putB 2 0) [first]]):=⟨if_pos h,if_pos h⟩
theorem rest_none {first:Int} {z:Nat} (h:¬(z % 64≠0∧t.F.blocks.getD (z / 64) 0≠0)):t.rest first z=t∧t.restC first z=0:=⟨if_neg h,if_neg h⟩
theorem rest_some {first:Int} {z:Nat} (h:z % 64≠0∧t.F.blocks.getD (z / 64) 0≠0):t.rest first z=t.chg (t.F.blocks.getD (z / 64) 0) ((z % 64:Nat):Int) (ofL (zeros (64-z % 64))) [first]∧t.restC first z=t.S.changeC (t.F.blocks.getD (z / 64) 0) ((z % 64:Nat):Int) (ofL (zeros (64-z % 64))) [first]:=⟨if_pos h,if_pos h⟩
theorem shr_nums {z Z R:Nat} (hZ:z / 64=Z) (hR:z % 64=R) (hz:z≤2560):(z:Int).tdiv 64=(Z:Int)∧(z:Int).tmod 64=(R:Int)∧wrap64 (Z:Int)=(Z:Int)∧IntKind.i64.wrap ((Z:Int)+1)=((Z+1:Nat):Int)∧(R≠0→Z<40)∧((R≠0→upB z=Z+1)∧(R=0→upB z=Z))∧Z≤40∧R<64:=by
 have hup:(R≠0→upB z=Z+1)∧(R=0→upB z=Z):=by
  rw[upB,hZ,hR]
  exact⟨fun h=>if_pos h,fun h=>if_neg (fun h2=>h2 h)⟩
 have ha:z=64*Z+R:=by omega
 have hR2:R<64:=by omega
 refine⟨?_,?_,IntWalk.wrap64_in _ ⟨by omega,by omega⟩,?_,fun h=>by omega,hup,by omega,hR2⟩
 ·rw[Int.tdiv_eq_ediv_of_nonneg (by omega)]; omega
 ·rw[Int.tmod_eq_emod_of_nonneg (by omega)]; omega
 ·rw[IntWalk.i64_in _ (by omega)]; omega
def WipeRel (w0:World) (base B Bd Bf:Nat) (D0:Nat→Prop) (g:Sp.Geom) (i at_:Int) (n:Sp.Inode) (vb:Value) (K:Nat→Prop) (w:World) (first:Int) (u:Nat) (t0:BSt) (s:Value) (wr:World):Prop:=
 ∃(q:Nat) (t:BSt) (vm:Value) (D:Nat→Prop),s = .int .i64 (q:Int)∧WipesAt g i first u t0 q t∧Fine t∧FM w0 base B Bd Bf D0 g i at_ n t vb vm D wr∧(∀j,Foot Bf vb vm D j→K j∨w.heap.size≤j)∧Turn K w wr
theorem Fine.rest (h:Fine t) (hm:t.made.length≤1000000) (first:Int) (z:Nat):Fine (t.rest first z)∧(t.rest first z).made.length≤t.made.length+1∧(t.rest first z).F=t.F:=by
 unfold BSt.rest
 split
 ·exact⟨h.chg hm _ _ _ _,by rw[chg_len]; exact Nat.le_refl _,rfl⟩
 ·exact⟨h,Nat.le_succ _,rfl⟩
theorem wipe_none {g:Sp.Geom} {i first:Int} {q:Nat} (h:t.F.blocks.getD q 0=0):t.wipe g i first q=t∧t.wipeC g i first q=0:=⟨if_neg (fun e=>e h),if_neg (fun e=>e h)⟩
theorem wipe_some {g:Sp.Geom} {i first b:Int} {q:Nat} (hb:t.F.blocks.getD q 0=b) (h:b≠0):t.wipe g i first q=(t.name g i q 0 [first]).gone g b [t.S.changeN (q7z g i t.F q) (q9z q) (putB 2 0) [first]] ∧
 t.wipeC g i first q=thenC (t.nameC g i q 0 [first]) ((t.name g i q 0 [first]).goneC g b [t.S.changeN (q7z g i t.F q) (q9z q) (putB 2 0) [first]]):=by
 subst hb
 exact⟨if_pos h,if_pos h⟩
theorem bshrink_any (h:FM w0 base B Bd Bf D0 g i at_ n t vb vm D w) (hf:Fine t) (hm:t.made.length+100≤1000000) (hg:g.ok) (hat:at_=q1z g i) (hb:BlkBd t) (hmo:0≤t.F.more) (z:Nat) (hz:z≤2560) (first:Int) :
 Calls Tryz.prog 167 #[pt Bf,.int .i64 (z:Int),.int .i64 first] w (FDone w0 base B Bd Bf D0 g i at_ n vb (Foot Bf vb vm D) w (t.shrunkC g i first z) (.tuple #[]) (t.shrunk g i first z)):=by
 obtain⟨Z,hZ⟩:=zx (z / 64)
 obtain⟨R,hR⟩:=zx (z % 64)
 obtain⟨d1,d2,wq,w1',hz40,hup,hZ40,hR64⟩:=shr_nums hZ hR hz
 obtain⟨gb,cap,hvb,-⟩:=h.blkCell (q:=0) (by rw[hb.1]; decide)
 rw[hb.1] at hvb
 subst hvb
 have hrn:=fun hh=>rest_none (t:=t) (first:=first) (z:=z) hh
 have hrs:=fun hh=>rest_some (t:=t) (first:=first) (z:=z) hh
 rw[hZ,hR] at hrn hrs
 have HZ40_:=zh hz40
 clear hz40
 have H:=zh h
 have HF:=zh hf
 have HM:=zh hm
 have HG:=zh hg
 have HAT:=zh hat
 have HB:=zh hb
 have HMO:=zh hmo
 have HZ:=zh hz
 have HRN:=zh hrn
 have HRS:=zh hrs
 have HUP:=zh hup
 have HZ40:=zh hZ40
 have HR64:=zh hR64
 clear h hf hm hg hat hb hmo hz hrn hrs hup hZ40 hR64
 clear hZ hR
 unfold pt
 go_enter Tryz.func167,Tryz.ntmps167
 go_upto_region 1 with fail
 rw[wq]
 go_upto_if 18 with fail
 go_cut [6] (fun s6 wx=>FMeet w0 base B Bd Bf D0 g i at_ n (.slice (some ⟨gb,0,none⟩) 40 cap) (Foot Bf (.slice (some ⟨gb,0,none⟩) 40 cap) vm D) w (t.rest first z) (t.restC first z) (upB z:Int) s6 wx)
 case first=>
  have x20a:=zc 20 H.out.core.box
  have x20:w.cell? ⟨Bf,20,none⟩=some (.slice (some ⟨gb,0,none⟩) 40 cap):=x20a
  clear x20a
  have HT0:Hid (Turn (Foot Bf (.slice (some ⟨gb,0,none⟩) 40 cap) vm D) w w):=Turn.refl _ _
  by_cases hR0:R=0
  ·have HRel:Hid (FMeet w0 base B Bd Bf D0 g i at_ n (.slice (some ⟨gb,0,none⟩) 40 cap) (Foot Bf (.slice (some ⟨gb,0,none⟩) 40 cap) vm D) w (t.rest first z) (t.restC first z) (upB z:Int) (.int .i64 (Z:Int)) w):=by
    rw[(HRN.out (fun h=>h.1 hR0)).1]
    exact⟨(HRN.out (fun h=>h.1 hR0)).2,by rw[HUP.out.2 hR0],vm,D,H.out,fun j hj=>Or.inl hj,HT0.out⟩
   have q1:decide ((R:Int) > 0)=false:=decide_eq_false (by omega)
   have q1b:¬0<R:=by omega
   clear hR0
   go_wp2
   go_meet
   case rel=>exact HRel.out
  ·have hZl:=HZ40_.out hR0
   have q1:decide ((R:Int) > 0)=true:=decide_eq_true (by omega)
   have q1b:0<R:=by omega
   have hZi:(Z:Int)<40:=by omega
   have c0:=H.out.blkAt (q:=Z) (by rw[HB.out.1]; exact hZl)
   have hnn:=HB.out.ok.getD Z
   obtain⟨b,hbz⟩:=zx (t.F.blocks.getD Z 0)
   rw[hbz] at c0 hnn
   by_cases hb0:b=0
   ·have HRel:Hid (FMeet w0 base B Bd Bf D0 g i at_ n (.slice (some ⟨gb,0,none⟩) 40 cap) (Foot Bf (.slice (some ⟨gb,0,none⟩) 40 cap) vm D) w (t.rest first z) (t.restC first z) (upB z:Int) (.int .i64 ((Z+1:Nat):Int)) w):=by
     rw[(HRN.out (fun h=>h.2 (hbz.trans hb0))).1]
     exact⟨(HRN.out (fun h=>h.2 (hbz.trans hb0))).2,by rw[HUP.out.1 hR0],vm,D,H.out,fun j hj=>Or.inl hj,HT0.out⟩
    have q2:decide (b > 0)=false:=decide_eq_false (by omega)
    clear hR0 hb0 hnn hbz hZl
    go_wp2
    go_meet
    case rel=>exact HRel.out
   ·obtain⟨hr1,hr2⟩:=HRS.out ⟨hR0,fun e=>hb0 (hbz.symm.trans e)⟩
    rw[hbz] at hr1 hr2
    have q2:decide (b > 0)=true:=decide_eq_true (by omega)
    obtain⟨P,hP⟩:=zx (ofL (zeros (64-R)))
    obtain⟨BK,hBK⟩:=zx (Sp.blank)
    have hb64:BK.size=64:=by rw[←hBK]; unfold Sp.blank; rw[Lib.size_eq,q8z,zeros_length]
    have hex:BK.extract R 64=P:=by
     rw[←hBK,←hP]
     refine Txt.ext ?_
     rw[q8z,Lib.extract_data]
     unfold Sp.blank
     rw[q8z]
     unfold zeros
     rw[List.drop_replicate,List.take_replicate,Nat.min_self]
    have hbl:=fun W:World=>q84z W
    rw[hBK] at hbl
    rw[hP] at hr1 hr2
    have hch:∀(W:World) (bs:Nat),Below w.heap.size w W→W.heap[bs]? = some (.cells #[.int .i64 first] 3 (0,0))→Calls Tryz.prog 100 #[pt Bf,.int .i64 b,.agg #[.int .i64 (R:Int),.string P],.slice (some ⟨bs,0,none⟩) 1 1] W (FDone w0 base B Bd Bf D0 g i at_ n (.slice (some ⟨gb,0,none⟩) 40 cap) (Foot Bf (.slice (some ⟨gb,0,none⟩) 40 cap) vm D) w (t.restC first z) (.int .i64 (t.S.changeN b (R:Int) P [first])) (t.rest first z)):=fun W bs hW hbs=>by
     rw[hr1,hr2]
     have hi:Ints W (.slice (some ⟨bs,0,none⟩) 1 1) [first]:=RowAt.block (vs:=[[Value.int .i64 first]]) (fun y hy=>by rw[List.mem_singleton.1 hy]; rfl) hbs rfl (Nat.le_refl _) (by decide)
     exact(q105z (H.out.below hW) HF.out.1 (HF.out.last (by have:=HM.out; omega)) (by have:=HM.out; omega) b (R:Int) P _ [first] hi (by show(1:Nat)≤_; decide)).mono fun e w' hd=>hd.ahead (fun j hj=>Or.inl hj) (Turn.of_below hW)
    have hS:∀W,Below w.heap.size w W→W.cell? ⟨Bf,20,none⟩=some (.slice (some ⟨gb,0,none⟩) 40 cap)∧W.cell? ⟨gb,Z,none⟩=some (.int .i64 b):=fun W hW=>
     ⟨(hW.cell (p:=⟨Bf,20,none⟩) H.out.core.bf).trans x20,(hW.cell (p:=⟨gb,Z,none⟩) (H.out.core.blk.lt gb rfl).2).trans c0⟩
    have hS5:∀e w5,FDone w0 base B Bd Bf D0 g i at_ n (.slice (some ⟨gb,0,none⟩) 40 cap) (Foot Bf (.slice (some ⟨gb,0,none⟩) 40 cap) vm D) w (t.restC first z) (.int .i64 (t.S.changeN b (R:Int) P [first])) (t.rest first z) e w5→t.restC first z=0→(w5.cell? ⟨Bf,20,none⟩=some (.slice (some ⟨gb,0,none⟩) 40 cap)∧w5.cell? ⟨gb,Z,none⟩=some (.int .i64 b)) ∧
     FMeet w0 base B Bd Bf D0 g i at_ n (.slice (some ⟨gb,0,none⟩) 40 cap) (Foot Bf (.slice (some ⟨gb,0,none⟩) 40 cap) vm D) w (t.rest first z) (t.restC first z) (upB z:Int) (.int .i64 ((Z+1:Nat):Int)) w5:=fun e w5 hd h0=>by
     obtain⟨vm5,D5,hM5,hf5,hT5⟩:=hd.got h0
     have hl5:Z<(t.rest first z).F.blocks.length:=by rw[hr1]; show Z<t.F.blocks.length; rw[HB.out.1]; exact hZl
     have c5:=hM5.blkAt hl5
     have e5:(t.rest first z).F.blocks.getD Z 0=b:=by rw[hr1]; exact hbz
     rw[e5] at c5
     exact⟨⟨zc 20 hM5.core.box,c5⟩,h0,by rw[HUP.out.1 hR0],vm5,D5,hM5,hf5,hT5⟩
    have hstop:∀e w5,FDone w0 base B Bd Bf D0 g i at_ n (.slice (some ⟨gb,0,none⟩) 40 cap) (Foot Bf (.slice (some ⟨gb,0,none⟩) 40 cap) vm D) w (t.restC first z) (.int .i64 (t.S.changeN b (R:Int) P [first])) (t.rest first z) e w5→t.restC first z≠0→FDone w0 base B Bd Bf D0 g i at_ n (.slice (some ⟨gb,0,none⟩) 40 cap) (Foot Bf (.slice (some ⟨gb,0,none⟩) 40 cap) vm D) w (t.shrunkC g i first z) (.tuple #[]) (t.shrunk g i first z) (stopE (t.restC first z)) w5:=fun e w5 hd h0=>by
     have e0:t.shrunkC g i first z=t.restC first z:=q37z h0
     rw[e0]
     exact hd.stop h0 _ _
    obtain⟨C,hC⟩:=zx (t.restC first z)
    obtain⟨N,hN⟩:=zx (t.S.changeN b (R:Int) P [first])
    rw[hC,hN] at hch hS5 hstop
    have HCEQ:=zh hC
    unfold pt at hch
    have hSd:=hS w.drew (blD (Below.refl _ _))
    have hRi:(R:Int)≤64:=by have:=HR64.out; omega
    have hRn:R≤64:=by omega
    have HS_:=zh hS
    clear hS
    have HBL:=zh hbl
    have HCH:=zh hch
    have HS5:=zh hS5
    have HSTOP:=zh hstop
    clear hbl hch hS5 hstop
    clear hR0 hb0 hnn hbz hZl hr1 hr2 hP hBK hC hN
    go_wp2_with fail
    clear x20 c0
    refine wp_region_held_drew (S:=(fun W=>W.cell? ⟨Bf,20,none⟩=some (.slice (some ⟨gb,0,none⟩) 40 cap)∧W.cell? ⟨gb,Z,none⟩=some (.int .i64 b))) (by kernel_rfl) (by first | trivial | assumption) (fun hHeld=>?_)
    refine tkH 0 ?_; simp only[Act.put,ps0]
    refine tkH 1 ?_; simp only[Act.put,ps0]
    refine tkH 2 ?_; simp only[Act.put,ps0]
    refine tkH 3 ?_; simp only[Act.put,ps0]
    refine tkH 4 ?_; simp only[Act.put,ps0]
    refine tkH 5 ?_; simp only[Act.put,ps0]
    refine tkH 6 ?_; simp only[Act.put,ps0]
    refine tkH 7 ?_; simp only[Act.put,ps0]
    refine tkH 8 ?_; simp only[Act.put,ps0]
    refine tkH 10 ?_; simp only[Act.put,ps0]
    refine tkH 13 ?_; simp only[Act.put,ps0]
    refine wpAnyH_ready (rs:=[9,14]) (by kernel_rfl) (by simp) ?_
    refine AllReadyH.cons rfl (fun K hK=>?_) (AllReadyH.cons rfl (fun K hK=>?_) AllReadyH.nil)
    ·try simp only[gg0]
     go_simp
     refine(HBL.out _).mono ?_
     rintro e wa ⟨rfl,hba⟩
     have HBa:Hid (Below w.heap.size w wa):=blN (blD (Below.refl _ _)) hba
     clear hba
     try simp only
     refine hK.out _ _ ?hkS (fun hHeld=>?_)
     case hkS=>
      exact HS_.out _ HBa.out
     clear hK K
     try simp only[Act.put,ps0]
     refine tkH 11 ?_; simp only[Act.put,ps0]
     refine tkH 12 ?_; simp only[Act.put,ps0]
     refine wpAnyH_ready (rs:=[14]) (by kernel_rfl) (by simp) ?_
     refine AllReadyH.cons rfl (fun K hK=>?_) AllReadyH.nil
     try simp only[gg0]
     go_simp
     try simp only
     refine hK.out _ _ ?hkS (fun hHeld=>?_)
     case hkS=>
      exact HS_.out _ (bl1 HBa.out _)
     clear hK K
     try simp only[Act.put,ps0]
     refine wpAnyH_ready (rs:=[15]) (by kernel_rfl) (by simp) ?_
     refine AllReadyH.cons rfl (fun K hK=>?_) AllReadyH.nil
     try simp only[gg0]
     go_simp
     refine(HCH.out _ _ (bl1 HBa.out _) (heapNew wa _)).mono ?_
     intro e w5 hd
     have h5:=HS5.out _ _ hd
     have HF5:=zh (HSTOP.out _ _ hd)
     obtain⟨hd1,-⟩:=hd
     rcases hd1 with ⟨h0,rfl,-⟩ | ⟨h0,rfl⟩
     ·obtain⟨hs5,hr5⟩:=h5 h0
      have HRel:=zh hr5
      clear h5 hr5 h0
      try simp only
      refine hK.out _ _ ?hkS (fun hHeld=>?_)
      case hkS=>
       exact hs5
      clear hK K
      try simp only[Act.put,ps0]
      refine wpAnyH_done (by kernel_rfl) ?_ _
      clear hHeld hs5
      go_wp2
      go_meet
      case rel=>
       rw[HCEQ.out]
       exact HRel.out
     ·have HF6:=zh (HF5.out h0)
      clear h5 h0
      unfold stopE at HF6 ⊢
      exact⟨rfl,HF6.out⟩
    ·try simp only[gg0]
     go_simp
     try simp only
     refine hK.out _ _ ?hkS (fun hHeld=>?_)
     case hkS=>
      exact HS_.out _ (blD (bl2 _))
     clear hK K
     try simp only[Act.put,ps0]
     refine wpAnyH_ready (rs:=[9]) (by kernel_rfl) (by simp) ?_
     refine AllReadyH.cons rfl (fun K hK=>?_) AllReadyH.nil
     try simp only[gg0]
     go_simp
     refine(HBL.out _).mono ?_
     rintro e wa ⟨rfl,hba⟩
     have HBa:Hid (Below w.heap.size w wa):=blN (blD (bl2 _)) hba
     have HZa:=zh (heapOld hba (show(w.alloc (.cells #[.int .i64 first] 3)).drew.heap[w.heap.size]? = _ from heapNew w _))
     clear hba
     try simp only
     refine hK.out _ _ ?hkS (fun hHeld=>?_)
     case hkS=>
      exact HS_.out _ HBa.out
     clear hK K
     try simp only[Act.put,ps0]
     refine tkH 11 ?_; simp only[Act.put,ps0]
     refine tkH 12 ?_; simp only[Act.put,ps0]
     refine wpAnyH_ready (rs:=[15]) (by kernel_rfl) (by simp) ?_
     refine AllReadyH.cons rfl (fun K hK=>?_) AllReadyH.nil
     try simp only[gg0]
     go_simp
     refine(HCH.out _ _ HBa.out HZa.out).mono ?_
     intro e w5 hd
     have h5:=HS5.out _ _ hd
     have HF5:=zh (HSTOP.out _ _ hd)
     obtain⟨hd1,-⟩:=hd
     rcases hd1 with ⟨h0,rfl,-⟩ | ⟨h0,rfl⟩
     ·obtain⟨hs5,hr5⟩:=h5 h0
      have HRel:=zh hr5
      clear h5 hr5 h0
      try simp only
      refine hK.out _ _ ?hkS (fun hHeld=>?_)
      case hkS=>
       exact hs5
      clear hK K
      try simp only[Act.put,ps0]
      refine wpAnyH_done (by kernel_rfl) ?_ _
      clear hHeld hs5
      go_wp2
      go_meet
      case rel=>
       rw[HCEQ.out]
       exact HRel.out
     ·have HF6:=zh (HF5.out h0)
      clear h5 h0
      unfold stopE at HF6 ⊢
      exact⟨rfl,HF6.out⟩
 case rest=>
 obtain⟨hc0,rfl,vm1,D1,hM1,hf1,hT1⟩:=hcut
 obtain⟨hr1,hr2,hr3⟩:=HF.out.rest (by have:=HM.out; omega) first z
 have hbd1:BlkBd (t.rest first z):=by unfold BlkBd; rw[hr3]; exact HB.out
 have hU40:upB z≤40:=by
  by_cases hR0:R=0
  ·rw[HUP.out.2 hR0]; exact HZ40.out
  ·rw[HUP.out.1 hR0]; exact HZ40_.out hR0
 have HSt:Hid (WipeRel w0 base B Bd Bf D0 g i at_ n (.slice (some ⟨gb,0,none⟩) 40 cap) (Foot Bf (.slice (some ⟨gb,0,none⟩) 40 cap) vm D) w first (upB z) (t.rest first z) (.int .i64 (upB z:Int)) wc):=⟨upB z,_,vm1,D1,rfl,WipesAt.start hbd1 hU40,hr1,hM1,hf1,hT1⟩
 have HMD:Hid ((t.rest first z).made.length≤t.made.length+1):=hr2
 have HC0:Hid (t.restC first z=0):=hc0
 have HMO1:Hid ((t.rest first z).F=t.F):=hr3
 clear hc0 hM1 hf1 hT1 hr1 hr2 hr3 hbd1 hU40 d1 d2 w1' HRN HRS
 obtain⟨U,hU⟩:=zx (upB z)
 rw[hU] at HSt
 have HUU:=zh hU
 obtain⟨t0,ht0⟩:=zx (t.rest first z)
 rw[ht0] at HSt HMD HMO1
 have HT0:=zh ht0
 go_wp2
 rw[hU]
 clear hU ht0
 go_loopw [6] (fun s6 wr=>WipeRel w0 base B Bd Bf D0 g i at_ n (.slice (some ⟨gb,0,none⟩) 40 cap) (Foot Bf (.slice (some ⟨gb,0,none⟩) 40 cap) vm D) w first U t0 s6 wr) (fun s6 _=>40-(intOf s6).toNat)
 case atStart=>exact HSt.out
 case round=>
  obtain⟨q,t',vm',D',rfl,hw,hfn,hM,hft,hTt⟩:=hrel
  by_cases hq40:q=40
  ·subst hq40
   obtain⟨e1,e2⟩:=hw.done
   have hcode:t.shrunkC g i first z=t'.unlistC g i first∧t.shrunk g i first z=t'.unlist g i first:=by
    unfold BSt.shrunkC BSt.shrunk
    rw[HC0.out,q11z rfl,HT0.out,HUU.out,e1,e2,q11z rfl]
    exact⟨rfl,rfl⟩
   have hmo1:t'.F.more=t.F.more:=by rw[hw.more,HMO1.out]
   have hml:t'.made.length+2≤1000000:=by have:=hw.made; have:=HMD.out; have:=HM.out; omega
   have hbd:=hw.blk
   have hcap:=hM.capGe
   rw[hbd.1] at hcap
   have hc8:¬cap=8:=by omega
   have hc9:¬cap-8=0:=by omega
   have hc10:(40:Int)≤(cap:Int):=by omega
   obtain⟨L8,hL8⟩:=zx (t'.F.blocks.drop 8)
   have hl32:L8.length=32:=by rw[←hL8,List.length_drop,hbd.1]
   have hlb:∀x∈L8,0≤x∧x<65536:=fun x hx=>hbd.2 x (by rw[←hL8] at hx; exact List.mem_of_mem_drop hx)
   have hcell:∀k,k<32→wr.cell? ⟨gb,8+k,none⟩=some (.int .i64 (L8.getD k 0)):=fun k hk=>by
    have c:=hM.blkAt (q:=8+k) (by rw[hbd.1]; omega)
    rw[c,←hL8,List.getD_eq_getElem?_getD,List.getD_eq_getElem?_getD,List.getElem?_drop]
   have x20a:=zc 20 hM.core.box
   have x20:wr.cell? ⟨Bf,20,none⟩=some (.slice (some ⟨gb,0,none⟩) 40 cap):=x20a
   have x19a:=zc 19 hM.core.box
   obtain⟨mo,hmo⟩:=zx (t'.F.more)
   have x19:wr.cell? ⟨Bf,19,none⟩=some (.int .i64 mo):=by rw[←hmo]; exact x19a
   have hmo0:0≤mo:=by rw[←hmo,hmo1]; exact HMO.out
   clear x20a x19a
   have hq40:¬(40:Int)<40:=by omega
   have HW:=zh hw
   have HCELL:=zh hcell
   have HL32:=zh hl32
   have HLB:=zh hlb
   have HFT:=zh hft
   have HTT:=zh hTt
   have HM':=zh hM
   have HFN:=zh hfn
   have HCODE:=zh hcode
   have HBD:=zh hbd
   have HL8:=zh hL8
   have HMOEQ:=zh hmo
   have HML:=zh hml
   clear hw hfn hM hft hTt e1 e2 hcode hmo1 hml hbd hL8 hl32 hlb hcell hmo hcap
   go_wp2
   go_loopw [9,72] (fun s9 s72 wx=>∃k:Nat,k≤32∧s9 = .int .i64 ((L8.take k).sum)∧s72 = .int .i64 (k:Int)∧wr=wx) (fun _ s72 _=>32-(intOf s72).toNat)
   case atStart=>exact⟨0,Nat.zero_le _,by simp,rfl,rfl⟩
   case round=>
    obtain⟨k,hk,rfl,rfl,rfl⟩:=hrel
    by_cases hk32:k<32
    ·have hki:(k:Int)<32:=by omega
     have c:=HCELL.out k hk32
     have hsum:=take_sum (l:=L8) (k:=k) (by rw[HL32.out]; exact hk32)
     have hs1:=sum_le (l:=L8.take (k+1)) (fun x hx=>HLB.out x (List.mem_of_mem_take hx))
     have hs2:((L8.take (k+1)).length:Int)≤32:=by rw[List.length_take,HL32.out]; omega
     obtain⟨s1,hs1e⟩:=zx ((L8.take (k+1)).sum)
     obtain⟨s0,hs0e⟩:=zx ((L8.take k).sum)
     obtain⟨b,hb⟩:=zx (L8.getD k 0)
     rw[hs1e,hs0e,hb] at hsum
     rw[hs1e] at hs1
     rw[hb] at c
     have e1:IntKind.i64.wrap (s0+b)=s1:=by rw[IntWalk.i64_in _ (by omega)]; omega
     have HS1:=zh hs1e
     rw[hs0e]
     clear hsum hs1 hs2 hs1e hs0e hb
     go_wp2
     go_roundw
     case rel=>
      refine⟨k+1,by omega,?_⟩
      have:=HS1.out
      first | (refine⟨?_,?_,trivial⟩ <;> first | (rw[HS1.out]; done) | go_num) | (refine⟨?_,?_⟩ <;> first | (rw[HS1.out]; done) | go_num | trivial)
     case measure=>simp[intOf]; omega
    ·obtain rfl:k=32:=by omega
     have hall:L8.take 32=L8:=List.take_of_length_le (by rw[HL32.out]; exact Nat.le_refl _)
     rw[hall]
     have hz:=sum_zero (l:=L8) (fun x hx=>(HLB.out x hx).1)
     rw[HL32.out] at hz
     obtain⟨sm,hsm⟩:=zx (L8.sum)
     rw[hsm] at hz ⊢
     by_cases hcond:mo≠0∧L8=List.replicate 32 0
     ·obtain⟨hu1,hu2⟩:=unlist_some (t:=t') (g:=g) (i:=i) (first:=first) (by rw[HMOEQ.out,HL8.out]; exact hcond)
      rw[HMOEQ.out] at hu1 hu2
      have q1:decide (mo > 0)=true:=decide_eq_true (by omega)
      have hsm0:sm=0:=hz.2 hcond.2
      have q2:(sm == 0)=true:=beq_iff_eq.2 hsm0
      have hb5:=bl2 (w:=wr) (.cells #[.int .i64 first] 3)
      have ho5:OwnR 3 1 intC wr.heap.size (wr.alloc (.cells #[.int .i64 first] 3)) (.slice (some ⟨wr.heap.size,0,none⟩) 1 1) [first]:=OwnR.block (l:=[first]) (heapNew wr _) rfl rfl (Nat.le_refl _) (by show(1:Nat)≤_; decide)
      have hT5:Turn (Foot Bf (.slice (some ⟨gb,0,none⟩) 40 cap) vm D) w (wr.alloc (.cells #[.int .i64 first] 3)):=HTT.out.trans (Turn.of_below (K:=Foot Bf (.slice (some ⟨gb,0,none⟩) 40 cap) vm D) hb5) (fun _ _ h=>h) (fun _ _ h=>h)
      have hml:=HML.out
      have hnm:=(fmore_any (HM'.out.below hb5) HFN.out (by omega) HAT.out 0 (by omega) (by omega) _ _ [first] ho5 (by show(1:Nat)≤_; decide)).mono fun e w6 hd=>hd.ahead HFT.out hT5
      obtain⟨N,hN⟩:=zx (t'.S.changeN (q1z g i) 24 (putB 2 0) [first])
      rw[hN] at hu1 hu2 hnm
      have hfN:Fine (t'.more g i 0 [first]):=HFN.out.chg (by omega) _ _ _ _
      have hfr:=fun w6 vm6 D6 (hM6:FM w0 base B Bd Bf D0 g i at_ n (t'.more g i 0 [first]) (.slice (some ⟨gb,0,none⟩) 40 cap) vm6 D6 w6) (hf6:∀j,Foot Bf (.slice (some ⟨gb,0,none⟩) 40 cap) vm6 D6 j→Foot Bf (.slice (some ⟨gb,0,none⟩) 40 cap) vm D j∨w.heap.size≤j) (hT6:Turn (Foot Bf (.slice (some ⟨gb,0,none⟩) 40 cap) vm D) w w6)=>(ffree_any hM6 hfN (by show(t'.made ++ [_]).length≤_; rw[List.length_append,List.length_singleton]; omega) HG.out mo N).mono fun e w7 hd=>hd.ahead hf6 hT6
      obtain⟨k1,hk1⟩:=zx (t'.moreC g i 0 [first])
      obtain⟨k2,hk2⟩:=zx ((t'.more g i 0 [first]).goneC g mo [N])
      rw[hk1,hk2] at hu2
      rw[hk1] at hnm
      rw[hk2,←hu1] at hfr
      have hstop:∀c w',c≠0→t'.unlistC g i first=c→Turn (Foot Bf (.slice (some ⟨gb,0,none⟩) 40 cap) vm D) w w'→FDone w0 base B Bd Bf D0 g i at_ n (.slice (some ⟨gb,0,none⟩) 40 cap) (Foot Bf (.slice (some ⟨gb,0,none⟩) 40 cap) vm D) w (t.shrunkC g i first z) (.tuple #[]) (t.shrunk g i first z) (stopE c) w':=fun c w' hc hcw hT'=>by
       rw[HCODE.out.1,hcw]
       exact q168z hc hT' _ _
      have hend:∀w7 vm7 D7,t'.unlistC g i first=0→FM w0 base B Bd Bf D0 g i at_ n (t'.unlist g i first) (.slice (some ⟨gb,0,none⟩) 40 cap) vm7 D7 w7→(∀j,Foot Bf (.slice (some ⟨gb,0,none⟩) 40 cap) vm7 D7 j→Foot Bf (.slice (some ⟨gb,0,none⟩) 40 cap) vm D j∨w.heap.size≤j)→Turn (Foot Bf (.slice (some ⟨gb,0,none⟩) 40 cap) vm D) w w7→FDone w0 base B Bd Bf D0 g i at_ n (.slice (some ⟨gb,0,none⟩) 40 cap) (Foot Bf (.slice (some ⟨gb,0,none⟩) 40 cap) vm D) w (t.shrunkC g i first z) (.tuple #[]) (t.shrunk g i first z) (.returned (.tuple #[])) w7:=fun w7 vm7 D7 h1 hM7 hf7 hT7=>by
       rw[HCODE.out.1,HCODE.out.2,h1]
       exact⟨Or.inl ⟨rfl,rfl,vm7,D7,hM7,hf7⟩,hT7⟩
      unfold pt at hnm hfr
      have HNM:=zh hnm
      have HFR:=zh hfr
      have HSTOP:=zh hstop
      have HEND:=zh hend
      have HU2:=zh hu2
      clear hnm hfr hstop hend hu2
      clear hz hsm hsm0 hall hcond hu1 hb5 ho5 hT5 hml hN hfN hk1 hk2
      go_wp2_with fail
      refine HNM.out.mono ?_
      rintro e w6 ⟨hd1,hT6⟩
      rcases hd1 with ⟨h0,rfl,vm6,D6,hM6,hf6⟩ | ⟨h0,rfl⟩
      ·have HFr:=zh (HFR.out w6 vm6 D6 hM6 hf6 hT6)
       clear hM6 hf6 hT6
       go_wp2_with fail
       refine HFr.out.mono ?_
       rintro e w7 ⟨hd1,hT7⟩
       rcases hd1 with ⟨h2,rfl,vm7,D7,hM7,hf7⟩ | ⟨h2,rfl⟩
       ·have HE:=zh (HEND.out w7 vm7 D7 (by rw[HU2.out,h0,h2]; rfl) hM7 hf7 hT7)
        clear hM7 hf7 hT7 h0 h2
        go_wp2
        first | exact HE.out | (go_end0; exact HE.out)
       ·have HE:=zh (HSTOP.out k2 w7 h2 (by rw[HU2.out,h0]; exact q11z rfl) hT7)
        clear h0 h2 hT7
        unfold stopE at HE ⊢
        go_wp2
        exact⟨rfl,HE.out⟩
      ·have HE:=zh (HSTOP.out k1 w6 h0 (by rw[HU2.out]; exact q37z h0) hT6)
       clear h0 hT6
       unfold stopE at HE ⊢
       go_wp2
       exact⟨rfl,HE.out⟩
     ·have hun:=unlist_none (t:=t') (g:=g) (i:=i) (first:=first) (by rw[HMOEQ.out,HL8.out]; exact hcond)
      have HE:Hid (FDone w0 base B Bd Bf D0 g i at_ n (.slice (some ⟨gb,0,none⟩) 40 cap) (Foot Bf (.slice (some ⟨gb,0,none⟩) 40 cap) vm D) w (t.shrunkC g i first z) (.tuple #[]) (t.shrunk g i first z) (.returned (.tuple #[])) wr):=by
       rw[HCODE.out.1,HCODE.out.2,hun.1,hun.2]
       exact⟨Or.inl ⟨rfl,rfl,vm',D',HM'.out,HFT.out⟩,HTT.out⟩
      by_cases hm0:mo=0
      ·have q1:decide (mo > 0)=false:=decide_eq_false (by omega)
       clear hz hsm hall hcond hun hm0
       go_wp2
       first | exact HE.out | (go_end0; exact HE.out)
      ·have q1:decide (mo > 0)=true:=decide_eq_true (by omega)
       have q2:(sm == 0)=false:=beq_eq_false_iff_ne.2 (fun e=>hcond ⟨hm0,hz.1 e⟩)
       clear hz hsm hall hcond hun hm0
       go_wp2
       first | exact HE.out | (go_end0; exact HE.out)
  ·have hq:q<40:=by have:=hw.le; omega
   have hqi:(q:Int)<40:=by omega
   have hml:t'.made.length+2≤1000000:=by have:=hw.made; have:=HMD.out; have:=HM.out; omega
   have x20a:=zc 20 hM.core.box
   have x20:wr.cell? ⟨Bf,20,none⟩=some (.slice (some ⟨gb,0,none⟩) 40 cap):=x20a
   clear x20a
   have c0:=hM.blkAt (q:=q) (by rw[hw.blk.1]; exact hq)
   have hnn:=hw.blk.ok.getD q
   obtain⟨b,hbz⟩:=zx (t'.F.blocks.getD q 0)
   rw[hbz] at c0 hnn
   by_cases hb0:b=0
   ·have q2:decide (b > 0)=false:=decide_eq_false (by omega)
    have hn2:=hw.next hq (wipe_none (hbz.trans hb0)).2
    rw[(wipe_none (hbz.trans hb0)).1] at hn2
    have HRel:Hid (WipeRel w0 base B Bd Bf D0 g i at_ n (.slice (some ⟨gb,0,none⟩) 40 cap) (Foot Bf (.slice (some ⟨gb,0,none⟩) 40 cap) vm D) w first U t0 (.int .i64 ((q+1:Nat):Int)) wr):=⟨q+1,t',vm',D',rfl,hn2,hfn,hM,hft,hTt⟩
    clear hw hfn hM hft hTt hml hnn hbz hb0 hn2
    go_wp2
    go_roundw
    case rel=>exact HRel.out
    case measure=>simp[intOf]; omega
   ·obtain⟨hw1,hw2⟩:=wipe_some (t:=t') (g:=g) (i:=i) (first:=first) (q:=q) hbz hb0
    have q2:decide (b > 0)=true:=decide_eq_true (by omega)
    have hb5:=bl2 (w:=wr) (.cells #[.int .i64 first] 3)
    have ho5:OwnR 3 1 intC wr.heap.size (wr.alloc (.cells #[.int .i64 first] 3)) (.slice (some ⟨wr.heap.size,0,none⟩) 1 1) [first]:=OwnR.block (l:=[first]) (heapNew wr _) rfl rfl (Nat.le_refl _) (by show(1:Nat)≤_; decide)
    have hT5:Turn (Foot Bf (.slice (some ⟨gb,0,none⟩) 40 cap) vm D) w (wr.alloc (.cells #[.int .i64 first] 3)):=hTt.trans (Turn.of_below (K:=Foot Bf (.slice (some ⟨gb,0,none⟩) 40 cap) vm D) hb5) (fun _ _ h=>h) (fun _ _ h=>h)
    have hgl:gb<wr.heap.size:=(hM.core.blk.lt gb rfl).2
    have hnm:=(fname_any (hM.below hb5) hfn (by omega) HAT.out hw.blk.1 hq 0 (by omega) (by omega) _ _ [first] ho5 (fun k hk e=>by
     have e1:wr.heap.size=k:=by simpa [Value.ownBlock] using hk
     have e2:gb=k:=by simpa [Value.ownBlock] using e
     omega) (by show(1:Nat)≤_; decide)).mono fun e w6 hd=>hd.ahead hft hT5
    obtain⟨N,hN⟩:=zx (t'.S.changeN (q7z g i t'.F q) (q9z q) (putB 2 0) [first])
    rw[hN] at hw1 hw2 hnm
    have hfN:Fine (t'.name g i q 0 [first]):=hfn.chg (by omega) _ _ _ _
    have hfr:=fun w6 vm6 D6 (hM6:FM w0 base B Bd Bf D0 g i at_ n (t'.name g i q 0 [first]) (.slice (some ⟨gb,0,none⟩) 40 cap) vm6 D6 w6) (hf6:∀j,Foot Bf (.slice (some ⟨gb,0,none⟩) 40 cap) vm6 D6 j→Foot Bf (.slice (some ⟨gb,0,none⟩) 40 cap) vm D j∨w.heap.size≤j) (hT6:Turn (Foot Bf (.slice (some ⟨gb,0,none⟩) 40 cap) vm D) w w6)=>(ffree_any hM6 hfN (by show(t'.made ++ [_]).length≤_; rw[List.length_append,List.length_singleton]; omega) HG.out b N).mono fun e w7 hd=>hd.ahead hf6 hT6
    have hfG:Fine (t'.wipe g i first q):=by rw[hw1]; exact hfN.gone (by show(t'.made ++ [_]).length≤_; rw[List.length_append,List.length_singleton]; omega) g b [N]
    obtain⟨k1,hk1⟩:=zx (t'.nameC g i q 0 [first])
    obtain⟨k2,hk2⟩:=zx ((t'.name g i q 0 [first]).goneC g b [N])
    rw[hk1,hk2] at hw2
    rw[hk1] at hnm
    rw[hk2,←hw1] at hfr
    have hstop:∀c w',c≠0→t'.wipeC g i first q=c→Turn (Foot Bf (.slice (some ⟨gb,0,none⟩) 40 cap) vm D) w w'→FDone w0 base B Bd Bf D0 g i at_ n (.slice (some ⟨gb,0,none⟩) 40 cap) (Foot Bf (.slice (some ⟨gb,0,none⟩) 40 cap) vm D) w (t.shrunkC g i first z) (.tuple #[]) (t.shrunk g i first z) (stopE c) w':=fun c w' hc hcw hT'=>by
     have e1:=hw.stop hq (by rw[hcw]; exact hc)
     have e0:t.shrunkC g i first z=c:=by
      unfold BSt.shrunkC
      rw[HC0.out,q11z rfl,HT0.out,HUU.out,e1,hcw]
      exact q37z hc
     rw[e0]
     exact q168z hc hT' _ _
    have hnext:k1=0→k2=0→∀w7 vm7 D7,FM w0 base B Bd Bf D0 g i at_ n (t'.wipe g i first q) (.slice (some ⟨gb,0,none⟩) 40 cap) vm7 D7 w7→(∀j,Foot Bf (.slice (some ⟨gb,0,none⟩) 40 cap) vm7 D7 j→Foot Bf (.slice (some ⟨gb,0,none⟩) 40 cap) vm D j∨w.heap.size≤j)→Turn (Foot Bf (.slice (some ⟨gb,0,none⟩) 40 cap) vm D) w w7 →
     WipeRel w0 base B Bd Bf D0 g i at_ n (.slice (some ⟨gb,0,none⟩) 40 cap) (Foot Bf (.slice (some ⟨gb,0,none⟩) 40 cap) vm D) w first U t0 (.int .i64 ((q+1:Nat):Int)) w7:=fun h1 h2 w7 vm7 D7 hM7 hf7 hT7=>
     ⟨q+1,_,vm7,D7,rfl,hw.next hq (by rw[hw2,h1,h2]; rfl),hfG,hM7,hf7,hT7⟩
    unfold pt at hnm hfr
    have HNM:=zh hnm
    have HFR:=zh hfr
    have HSTOP:=zh hstop
    have HNEXT:=zh hnext
    have HW2:=zh hw2
    clear hnm hfr hstop hnext hw2
    clear hw hfn hM hft hTt hml hnn hbz hb0 hw1 hb5 ho5 hT5 hgl hN hfN hfG hk1 hk2
    go_wp2_with fail
    refine HNM.out.mono ?_
    rintro e w6 ⟨hd1,hT6⟩
    rcases hd1 with ⟨h0,rfl,vm6,D6,hM6,hf6⟩ | ⟨h0,rfl⟩
    ·have HFr:=zh (HFR.out w6 vm6 D6 hM6 hf6 hT6)
     clear hM6 hf6 hT6
     go_wp2_with fail
     refine HFr.out.mono ?_
     rintro e w7 ⟨hd1,hT7⟩
     rcases hd1 with ⟨h2,rfl,vm7,D7,hM7,hf7⟩ | ⟨h2,rfl⟩
     ·have HRel:=zh (HNEXT.out h0 h2 w7 vm7 D7 hM7 hf7 hT7)
      clear hM7 hf7 hT7 h0 h2
      go_wp2
      go_roundw
      case rel=>exact HRel.out
      case measure=>simp[intOf]; omega
     ·have HE:=zh (HSTOP.out k2 w7 h2 (by rw[HW2.out,h0]; exact q11z rfl) hT7)
      clear h0 h2 hT7
      unfold stopE at HE ⊢
      go_wp2
      exact⟨rfl,HE.out⟩
    ·have HE:=zh (HSTOP.out k1 w6 h0 (by rw[HW2.out]; exact q37z h0) hT6)
     clear h0 hT6
     unfold stopE at HE ⊢
     go_wp2
     exact⟨rfl,HE.out⟩
end
theorem q120z (d:Nat) (v:Value) (h1:d≠8) (h2:d≠9) (t:Array Value):results Tryz.f86 (t.setIfInBounds d v)=results Tryz.f86 t:=by
 simp[results,Tryz.results86,Array.getElem?_setIfInBounds,h1,h2]
/-- What is met at the door, where a code is thrown. -/
structure AtDoor (w:World) (b:Nat) (c:Int) (Q:Ending→World→Prop) (v:Value) (we:World):Prop where
 cell:we.cell? ⟨b,0,none⟩=some (.int .i64 0)
 free:we.frozen? ⟨b,0,none⟩=false
 set:(we.setCell ⟨b,0,none⟩ (.int .i64 c)).heap[b]? = some (.cells #[.int .i64 c] 25 (0,0))
 fin:Q (.returned (.tuple #[v,.int .i64 c])) (we.setCell ⟨b,0,none⟩ (.int .i64 c))
theorem AtDoor.mk' {w:World} {b:Nat} {c:Int} {Q:Ending→World→Prop} {v:Value} {we:World} (hz:we.heap[b]? = some (.cells #[.int .i64 0] 25 (0,0))) (hf:Q (.returned (.tuple #[v,.int .i64 c])) (we.setCell ⟨b,0,none⟩ (.int .i64 c))):AtDoor w b c Q v we:=
 ⟨zc 0 hz,q4z hz,q13z (k:=0) hz _,hf⟩
section
theorem bcut_any {w:World} {base B Bd:Nat} {S:Sp.Side} {D:Nat→Prop} (h:SideAt w base B Bd S D) (hD:∀j,D j→j<w.heap.size) {g:Sp.Geom} {i:Int} {F:File} (hs:Stands S g i F) (hlast:S.deps.last≤900000000) (hkind:F.kind≠0) (z:Nat) (hz:z≤2560) :
 Calls Tryz.prog 86 #[pt B,gV g,.int .i64 i,.int .i64 (z:Int)] w (q173z w base B Bd D ((⟨S,F,[]⟩:BSt).cutC g i z) ((⟨S,F,[]⟩:BSt).cut g i z)):=by
 obtain⟨ga,gb,gc⟩:=g
 unfold gV pt
 obtain⟨W0,hW0⟩:=zg w ga gb gc
 have hk:=q30z hW0
 have HB0:=zh hk.1
 have HK:=zh hk.2
 clear hk
 have hsz:W0.heap.size=w.heap.size+1:=by rw[←hW0]; simp
 obtain⟨W1,hW1⟩:=zx (W0.alloc (.cells #[.int .i64 0] 25))
 have HB1:Hid (Below W0.heap.size W0 W1):=by rw[←hW1]; exact bl2 _
 have HZ1:Hid (W1.heap[w.heap.size+1]? = some (.cells #[.int .i64 0] 25 (0,0))):=by rw[←hW1,←hsz]; exact heapNew W0 _
 have hbw:Below w.heap.size w W1:=blN HB0.out HB1.out
 have hbs:=h.baseLe
 have hop:=bopen_any (Below.refl W1.heap.size W1) (h.below hbw).baseLe (h.below hbw) (fun j hj=>Nat.lt_of_lt_of_le (hD j hj) hbw.size) hs
 unfold OpenPost gV pt at hop
 obtain⟨z0,z1,z2⟩:=HK.out W1 HB1.out
 have HOP:=zh hop
 have hbd:BlkBd (⟨S,F,[]⟩:BSt):=⟨hs.file.len,fun b hb=>q151z (hs.blk b hb)⟩
 have hmo:0≤F.more:=(fits_bd hs.gok hs.fits).2.2.2.2.2.1.1
 have hok:Fine (⟨S,F,[]⟩:BSt):=⟨hs.ok,by show S.deps.last≤900000000+0; omega⟩
 clear hop hbw
 have H:=zh h
 have HS:=zh hs
 have HLAST:=zh hlast
 have HKIND:=zh hkind
 have HZ:=zh hz
 have HBD:=zh hbd
 have HMO:=zh hmo
 clear h hs hlast hkind hz hbd hmo
 have HOK_:=zh hok
 clear hok
 go_enter_defers Tryz.func86,Tryz.ntmps86
 go_wp2_with fail
 refine HOP.out.mono ?_
 rintro e w2 ⟨Bf,vb,rfl,hM,hb2⟩
 have hwi:=bwithin_ok hM HKIND.out (off:=(z:Int)) (long:=0) (by omega) (by omega) (by have:=HZ.out; omega)
 unfold pt at hwi
 have HWI:=zh hwi
 have HM:=zh hM
 clear hwi hM hb2 z0 z1 z2
 go_wp2_with fail
 refine HWI.out.mono ?_
 rintro e w3 ⟨rfl,hw3⟩
 replace hw3:=hw3.symm
 subst hw3
 have x8a:=zc 8 HM.out.core.box
 have x8:w2.cell? ⟨Bf,8,none⟩=some (.int .i64 F.size):=x8a
 clear x8a HWI HOP
 have HZ2:Hid (∀we,Turn D W1 we→we.heap[w.heap.size+1]? = some (.cells #[.int .i64 0] 25 (0,0))):=fun we hT=>hT.heap HZ1.out (fun hd=>by have:=hD _ hd; omega)
 have HOK:Hid (∀(t':BSt) vm' D' we,(⟨S,F,[]⟩:BSt).cutC ⟨ga,gb,gc⟩ i z=0→(⟨S,F,[]⟩:BSt).cut ⟨ga,gb,gc⟩ i z=t'→FM W1 base B Bd Bf D ⟨ga,gb,gc⟩ i (q1z ⟨ga,gb,gc⟩ i) F.node t' vb vm' D' we→AtDoor w (w.heap.size+1) 0 (q173z w base B Bd D ((⟨S,F,[]⟩:BSt).cutC ⟨ga,gb,gc⟩ i z) ((⟨S,F,[]⟩:BSt).cut ⟨ga,gb,gc⟩ i z)) vm' we):=fun t' vm' D' we hc ht hM'=>by
  have hf:=hM'.finish (blN HB0.out HB1.out) hD hbs (q:=w.heap.size+1) (Nat.le_succ _) (Array.getElem?_eq_some_iff.1 HZ1.out).1 (.int .i64 0)
  refine AtDoor.mk' (HZ2.out we hM'.core.tn) ?_
  rw[hc,ht]
  exact Or.inl ⟨rfl,vm',rfl,hf.1,hf.2⟩
 have HNO:Hid (∀c we,c≠0→(⟨S,F,[]⟩:BSt).cutC ⟨ga,gb,gc⟩ i z=c→Turn D W1 we→AtDoor w (w.heap.size+1) c (q173z w base B Bd D ((⟨S,F,[]⟩:BSt).cutC ⟨ga,gb,gc⟩ i z) ((⟨S,F,[]⟩:BSt).cut ⟨ga,gb,gc⟩ i z)) (.slice none 0 0) we):=fun c we hc he hT=>by
  refine AtDoor.mk' (HZ2.out we hT) ?_
  rw[he]
  exact Or.inr ⟨hc,rfl,((Turn.of_below (K:=D) (blN HB0.out HB1.out)).trans hT (fun _ _ h=>h) (fun _ _ h=>h)).trans (K:=D) (q14z (b:=w.heap.size+1) (k:=0)) (fun _ _ h=>h) (fun j hj e=>by omega)⟩
 by_cases hzs:(z:Int)=F.size
 ·have hd:=HOK.out _ _ _ w2 (if_pos hzs) (if_pos hzs) HM.out
  have HD:=zh hd
  have q1:((z:Int) == F.size)=true:=beq_iff_eq.2 hzs
  have c6:=HD.out.cell
  have v6:=HD.out.free
  clear hd hzs
  go_wp2
  refine leaves_cons (f:=96) (args:=#[.pointer (some ⟨w.heap.size+1,0,none⟩)]) (by simp) (by simp[go_sem]) ?_
  refine(q76z ⟨w.heap.size+1,0,none⟩ _).mono ?_
  rintro e u' w'' ⟨rfl,rfl,rfl⟩
  have hz8:=HD.out.set
  have hEnd:=HD.out.fin
  clear HD
  generalize World.setCell _ ⟨w.heap.size+1,0,none⟩ (.int .i64 0)=W7 at hz8 hEnd ⊢
  have u0:=zc 0 hz8
  simp[Leaves,settle,results,Tryz.results86,go_sem,u0]
  exact hEnd
 ·have q1:((z:Int) == F.size)=false:=beq_eq_false_iff_ne.2 hzs
  have x5:=zc 5 HM.out.core.box
  obtain⟨sec,hsec⟩:=zx (q1z ⟨ga,gb,gc⟩ i)
  have x5b:w2.cell? ⟨Bf,5,none⟩=some (.int .i64 sec):=by rw[←hsec]; exact x5
  have hpc:=fun W:World=>isize_any W (z:Int) (by omega) (by have:=HZ.out; omega)
  have hpa:=fun(W:World) (off:Int) (y:ByteArray)=>bpatch_any W off y
  have hbd2:Below w2.heap.size w2 w2.drew:=blD (Below.refl _ _)
  have hch:=fun W (hW:Below w2.drew.heap.size w2.drew W)=>q105z (HM.out.below (blN hbd2 hW)) HOK_.out.1 (HOK_.out.last (by show(0:Nat)≤1000000; decide)) (by show(0:Nat)≤1000000; decide) (q1z ⟨ga,gb,gc⟩ i) 2 (putB 2 (z:Int)) (.slice none 0 0) [] (RowAt.void _ 1) (by show(0:Nat)≤100000; decide)
  have hS:∀W,Below w2.drew.heap.size w2.drew W→W.cell? ⟨Bf,5,none⟩=some (.int .i64 sec):=fun W hW=>by
   have hlt:Bf<w2.drew.heap.size:=HM.out.core.bf
   exact(hW.cell (p:=⟨Bf,5,none⟩) hlt).trans x5b
  obtain⟨T2,hT2⟩:=zx ((⟨S,F,[]⟩:BSt).sized ⟨ga,gb,gc⟩ i (z:Int) [])
  have hT2F:Fine T2∧T2.made.length=1∧BlkBd T2∧0≤T2.F.more:=by
   rw[←hT2]
   exact⟨HOK_.out.chg (by show(0:Nat)≤1000000; decide) _ _ _ _,rfl,HBD.out,HMO.out⟩
  have hcC:(⟨S,F,[]⟩:BSt).cutC ⟨ga,gb,gc⟩ i z=thenC (S.changeC sec 2 (putB 2 (z:Int)) []) (if(z:Int)<F.size then T2.shrunkC ⟨ga,gb,gc⟩ i ((S.deps.last:Int)+1) z else 0):=by
   unfold BSt.cutC
   rw[if_neg hzs,hT2]
   unfold BSt.sizedC
   rw[hsec]
  have hcT:(⟨S,F,[]⟩:BSt).cut ⟨ga,gb,gc⟩ i z=if(z:Int)<F.size then T2.shrunk ⟨ga,gb,gc⟩ i ((S.deps.last:Int)+1) z else T2:=by
   unfold BSt.cut
   rw[if_neg hzs,hT2]
  have hgot:∀W e we,Below w2.drew.heap.size w2.drew W→FDone W1 base B Bd Bf D ⟨ga,gb,gc⟩ i (q1z ⟨ga,gb,gc⟩ i) F.node vb (Foot Bf vb (.slice none 0 0) D) W (S.changeC (q1z ⟨ga,gb,gc⟩ i) 2 (putB 2 (z:Int)) []) (.int .i64 (S.changeN (q1z ⟨ga,gb,gc⟩ i) 2 (putB 2 (z:Int)) [])) ((⟨S,F,[]⟩:BSt).chg (q1z ⟨ga,gb,gc⟩ i) 2 (putB 2 (z:Int)) []) e we →
   Turn D W1 we∧(S.changeC (q1z ⟨ga,gb,gc⟩ i) 2 (putB 2 (z:Int)) []=0→S.changeN (q1z ⟨ga,gb,gc⟩ i) 2 (putB 2 (z:Int)) []=(S.deps.last:Int)+1∧∃vm' D',FM W1 base B Bd Bf D ⟨ga,gb,gc⟩ i (q1z ⟨ga,gb,gc⟩ i) F.node T2 vb vm' D' we):=fun W e we hW hd=>by
   refine⟨(HM.out.below (blN hbd2 hW)).all hd.2,fun h0=>⟨(Side.change_last h0).2,?_⟩⟩
   obtain⟨vm',D2,hM2,_,_⟩:=hd.got h0
   rw[←hT2]
   exact⟨vm',D2,hM2.resize (z:Int)⟩
  have hHM:=HM.out.core.tn
  rw[hsec] at hch hgot
  obtain⟨P,hP⟩:=zx (putB 2 (z:Int))
  rw[hP] at hpc hch hgot hcC
  obtain⟨C,hC⟩:=zx (S.changeC sec 2 P [])
  obtain⟨N,hN⟩:=zx (S.changeN sec 2 P [])
  have hch2:∀W,Below w2.drew.heap.size w2.drew W→Calls Tryz.prog 100 #[pt Bf,.int .i64 sec,.agg #[.int .i64 2,.string P],.slice none 0 0] W (FDone W1 base B Bd Bf D ⟨ga,gb,gc⟩ i sec F.node vb (Foot Bf vb (.slice none 0 0) D) W C (.int .i64 N) ((⟨S,F,[]⟩:BSt).chg sec 2 P [])):=fun W hW=>by
   have:=hch W hW
   rw[hC,hN] at this
   exact this
  rw[hC,hN] at hgot
  rw[hC] at hcC
  unfold pt at hch2
  have hSd:=hS w2.drew (Below.refl _ _)
  have HS_:=zh hS
  have HSEC:=zh hsec
  clear hS hch hsec hHM
  have HPC:=zh hpc
  have HPA:=zh hpa
  have HCH2:=zh hch2
  have HGOT:=zh hgot
  have HCC:=zh hcC
  have HCT:=zh hcT
  have HT2F:=zh hT2F
  clear hpc hpa hch2 hgot hcC hcT hT2F
  clear x5 hP hC hN hT2 hbd2
  go_wp2_with fail
  clear x5b
  refine wp_region_held_drew (S:=(fun W=>W.cell? ⟨Bf,5,none⟩=some (.int .i64 sec))) (by kernel_rfl) (by first | trivial | assumption) (fun hHeld=>?_)
  refine tkH 0 ?_ rfl (hQ:=(q23z (q120z _ _ (by decide) (by decide)))); simp only[Act.put,ps0]
  refine tkH 1 ?_ rfl (hQ:=(q23z (q120z _ _ (by decide) (by decide)))); simp only[Act.put,ps0]
  refine tkH 2 ?_ rfl (hQ:=(q23z (q120z _ _ (by decide) (by decide)))); simp only[Act.put,ps0]
  refine tkH 3 ?_ rfl (hQ:=(q23z (q120z _ _ (by decide) (by decide)))); simp only[Act.put,ps0]
  refine tkH 4 ?_ rfl (hQ:=(q23z (q120z _ _ (by decide) (by decide)))); simp only[Act.put,ps0]
  refine tkH 5 ?_ rfl (hQ:=(q23z (q120z _ _ (by decide) (by decide)))); simp only[Act.put,ps0]
  refine wpAnyH_ready (rs:=[6]) (by kernel_rfl) (by simp) ?_
  refine AllReadyH.cons rfl (fun K hK=>?_) AllReadyH.nil
  try simp only[gg0]
  go_simp
  refine(HPC.out _).mono ?_
  rintro e w3 ⟨rfl,hb3⟩
  have HB3:=zh hb3
  clear hb3
  try simp only
  refine hK.out _ _ ?hkS (fun hHeld=>?_)
  case hkS=>
   exact HS_.out _ HB3.out
  clear hK K
  try simp only[Act.put,ps0]
  refine tkH 7 ?_ rfl (hQ:=(q23z (q120z _ _ (by decide) (by decide)))); simp only[Act.put,ps0]
  refine tkH 8 ?_ rfl (hQ:=(q23z (q120z _ _ (by decide) (by decide)))); simp only[Act.put,ps0]
  refine wpAnyH_ready (rs:=[9]) (by kernel_rfl) (by simp) ?_
  refine AllReadyH.cons rfl (fun K hK=>?_) AllReadyH.nil
  try simp only[gg0]
  go_simp
  refine(HPA.out _ _ _).mono ?_
  rintro e w4 ⟨rfl,hb4⟩
  have HB4:=zh (blN HB3.out hb4)
  clear hb4
  try simp only
  refine hK.out _ _ ?hkS (fun hHeld=>?_)
  case hkS=>
   exact HS_.out _ HB4.out
  clear hK K
  try simp only[Act.put,ps0]
  refine wpAnyH_ready (rs:=[10]) (by kernel_rfl) (by simp) ?_
  refine AllReadyH.cons rfl (fun K hK=>?_) AllReadyH.nil
  try simp only[gg0]
  go_simp
  refine(HCH2.out _ HB4.out).mono ?_
  intro e w5 hd
  obtain⟨hT5,hgo⟩:=HGOT.out _ _ _ HB4.out hd
  obtain⟨hd1,-⟩:=hd
  rcases hd1 with ⟨h0,rfl,-⟩ | ⟨h0,rfl⟩
  ·obtain⟨hN1,vm5,D5,hM5⟩:=hgo h0
   have hs5a:=zc 5 hM5.core.box
   have hs5:w5.cell? ⟨Bf,5,none⟩=some (.int .i64 sec):=hs5a
   clear hs5a
   have hM5:FM W1 base B Bd Bf D ⟨ga,gb,gc⟩ i (q1z ⟨ga,gb,gc⟩ i) F.node T2 vb vm5 D5 w5:=by rw[HSEC.out]; exact hM5
   have HM5:=zh hM5
   clear hgo hT5 hM5
   subst hN1
   try simp only
   refine hK.out _ _ ?hkS (fun hHeld=>?_)
   case hkS=>
    exact hs5
   clear hK K
   try simp only[Act.put,ps0]
   refine tkH 11 ?_ rfl (hQ:=(q23z (q120z _ _ (by decide) (by decide)))); simp only[Act.put,ps0]
   refine wpAnyH_done (by kernel_rfl) ?_ _
   clear hHeld hs5
   have x8a:=zc 8 HM5.out.core.box
   have x8:w5.cell? ⟨Bf,8,none⟩=some (.int .i64 F.size):=x8a
   clear x8a
   by_cases hlt:(z:Int)<F.size
   ·have q5:decide ((z:Int)<F.size)=true:=decide_eq_true hlt
    obtain⟨f1,f2,f3,f4⟩:=HT2F.out
    have hsh:=bshrink_any HM5.out f1 (by omega) HS.out.gok rfl f3 f4 z HZ.out ((S.deps.last:Int)+1)
    have hcc:=HCC.out
    have hct:=HCT.out
    rw[if_pos hlt,h0,q11z rfl] at hcc
    rw[if_pos hlt] at hct
    obtain⟨C3,hC3⟩:=zx (T2.shrunkC ⟨ga,gb,gc⟩ i ((S.deps.last:Int)+1) z)
    rw[hC3] at hsh hcc
    unfold pt at hsh
    have HSH:=zh hsh
    have HCC2:=zh hcc
    have HCT2:=zh hct
    clear hsh hcc hct hC3 f1 f2 f3 f4 hlt h0
    go_wp2_with fail
    clear x8
    refine HSH.out.mono ?_
    rintro e w6 ⟨hd1,hT6⟩
    rcases hd1 with ⟨h2,rfl,vm6,D6,hM6,-⟩ | ⟨h2,rfl⟩
    ·have HD:=zh (HOK.out _ vm6 D6 w6 (HCC2.out.trans h2) HCT2.out hM6)
     have x21a:=zc 21 hM6.core.box
     have x21:w6.cell? ⟨Bf,21,none⟩=some vm6:=x21a
     have c6:=HD.out.cell
     have v6:=HD.out.free
     clear x21a hM6 hT6 h2
     go_wp2
     refine leaves_cons (f:=96) (args:=#[.pointer (some ⟨w.heap.size+1,0,none⟩)]) (by simp) (by simp[go_sem]) ?_
     refine(q76z ⟨w.heap.size+1,0,none⟩ _).mono ?_
     rintro e u' w'' ⟨rfl,rfl,rfl⟩
     have hz8:=HD.out.set
     have hEnd:=HD.out.fin
     clear HD
     generalize World.setCell _ ⟨w.heap.size+1,0,none⟩ (.int .i64 0)=W7 at hz8 hEnd ⊢
     have u0:=zc 0 hz8
     simp[Leaves,settle,results,Tryz.results86,go_sem,u0]
     exact hEnd
    ·have HD:=zh (HNO.out C3 w6 h2 HCC2.out (HM5.out.all hT6))
     clear hT6 h2
     unfold stopE
     go_wp2
     refine leaves_cons (f:=96) (args:=#[.pointer (some ⟨w.heap.size+1,0,none⟩)]) (by simp) (by simp[go_sem]) ?_
     refine(caught_stop ⟨w.heap.size+1,0,none⟩ _ (.int .i64 0) [] _ HD.out.cell HD.out.free).mono ?_
     rintro e u' w'' ⟨rfl,rfl,rfl⟩
     have hz8:=HD.out.set
     have hEnd:=HD.out.fin
     clear HD
     generalize World.setCell _ ⟨w.heap.size+1,0,none⟩ _=W7 at hz8 hEnd ⊢
     have u0:=zc 0 hz8
     simp[Leaves,settle,results,Tryz.results86,go_sem,u0]
     exact hEnd
   ·have q5:decide ((z:Int)<F.size)=false:=decide_eq_false hlt
    have hcc:=HCC.out
    have hct:=HCT.out
    rw[if_neg hlt,h0,q11z rfl] at hcc
    rw[if_neg hlt] at hct
    have HD:=zh (HOK.out T2 vm5 D5 w5 hcc hct HM5.out)
    have x21a:=zc 21 HM5.out.core.box
    have x21:w5.cell? ⟨Bf,21,none⟩=some vm5:=x21a
    have c6:=HD.out.cell
    have v6:=HD.out.free
    clear x21a hcc hct h0 hlt
    go_wp2
    refine leaves_cons (f:=96) (args:=#[.pointer (some ⟨w.heap.size+1,0,none⟩)]) (by simp) (by simp[go_sem]) ?_
    refine(q76z ⟨w.heap.size+1,0,none⟩ _).mono ?_
    rintro e u' w'' ⟨rfl,rfl,rfl⟩
    have hz8:=HD.out.set
    have hEnd:=HD.out.fin
    clear HD
    generalize World.setCell _ ⟨w.heap.size+1,0,none⟩ (.int .i64 0)=W7 at hz8 hEnd ⊢
    have u0:=zc 0 hz8
    simp[Leaves,settle,results,Tryz.results86,go_sem,u0]
    exact hEnd
  ·have HD:=zh (HNO.out C w5 h0 (HCC.out.trans (q37z h0)) hT5)
   clear hgo hT5 h0
   refine leaves_cons (f:=96) (args:=#[.pointer (some ⟨w.heap.size+1,0,none⟩)]) (by simp) (by simp[go_sem]) ?_
   refine(caught_stop ⟨w.heap.size+1,0,none⟩ _ (.int .i64 0) [] _ HD.out.cell HD.out.free).mono ?_
   rintro e u' w'' ⟨rfl,rfl,rfl⟩
   have hz8:=HD.out.set
   have hEnd:=HD.out.fin
   clear HD
   generalize World.setCell _ ⟨w.heap.size+1,0,none⟩ _=W7 at hz8 hEnd ⊢
   have u0:=zc 0 hz8
   simp[Leaves,settle,results,Tryz.results86,go_sem,u0]
   exact hEnd
end
