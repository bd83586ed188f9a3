import Derived.Test.YtgofmnhfajmbfaaGreatDoorSpLeased
namespace Go.Proofs.YtgofmnhfajmbfaaGreatDoor
open Go Go.RowKit Txt Sp
section
set_option maxHeartbeats 8000000
theorem dir_index (s:ByteArray):∀k:Nat,k<4→∀W:World,(Instr.index 331 (.agg (dirA s 4)) (.int .i64 (k:Int))).run Tryz.prog W = .ok (.agg #[.int .i64 (q2z s k).inode,.string (q2z s k).name]) W
 | 0,_,_=>by kernel_rfl
 | 1,_,_=>by kernel_rfl
 | 2,_,_=>by kernel_rfl
 | 3,_,_=>by kernel_rfl
 | k+4,h,_=>absurd h (by omega)
theorem told_yes {s:ByteArray} {w w':World} (h:q24z s) (hb:Below w.heap.size w w'):q29z (if q24z s then some (q43z s 4) else none) w (.returned (.tuple #[.string (ofL (q43z s 4)),.bool true])) w':=by
 rw[if_pos h]
 exact q127z rfl rfl (fun L hL=>by rw[Option.some.inj hL]) hb
theorem told_no {s:ByteArray} {w w':World} (h:¬q24z s) (hb:Below w.heap.size w w'):q29z (if q24z s then some (q43z s 4) else none) w (.returned (.tuple #[.string ⟨#[]⟩,.bool false])) w':=by
 rw[if_neg h]
 exact q127z rfl rfl (fun L hL=>absurd hL (by simp)) hb
set_option maxRecDepth 20000 in
theorem dlisted_any (w:World) (g:Sp.Geom) (a:Int) (s:ByteArray) (hs:s.size=64) (hk:(g.kind a).1=6) (ht:TabOk w) (hm:MaxOk w) :
 Calls Tryz.prog 226 #[.string s] w (q29z (told g a s) w):=by
 rw[told_dir hk]
 have hd:=fun(W:World) (hm:MaxOk W)=>edecode_any W s hm
 unfold EDec at hd
 have HM:=zh hm
 have HT:=zh ht
 by_cases hdir:q24z s
 rotate_left
 ·rw[if_neg hdir,if_neg hdir] at hd
  have HNo:Hid (∀w',Below w.heap.size w w'→q29z (if q24z s then some (q43z s 4) else none) w (.returned (.tuple #[.string ⟨#[]⟩,.bool false])) w'):=fun w' hb=>told_no hdir hb
  obtain⟨Q,hQ⟩:=zx (q29z (if q24z s then some (q43z s 4) else none) w)
  rw[hQ] at HNo ⊢
  have h0:dirA s 0=#[.int .i64 0,.string ⟨#[]⟩,.int .i64 0,.string ⟨#[]⟩,.int .i64 0,.string ⟨#[]⟩,.int .i64 0,.string ⟨#[]⟩]:=rfl
  rw[h0] at hd
  have HD:=zh hd
  clear hd
  clear hdir hQ hm ht hk hs h0
  go_enter Tryz.func226,Tryz.ntmps226
  go_wp2_with fail
  refine(HD.out _ HM.out).mono ?_
  rintro e w1 ⟨rfl,hb1⟩
  go_wp2
  first | exact HNo.out _ (bl1 hb1 _) | (go_ret2; exact HNo.out _ (bl1 hb1 _))
 rw[if_pos hdir,if_pos hdir] at hd
 have HYes:Hid (∀w',Below w.heap.size w w'→q29z (if q24z s then some (q43z s 4) else none) w (.returned (.tuple #[.string (ofL (q43z s 4)),.bool true])) w'):=fun w' hb=>told_yes hdir hb
 obtain⟨Q,hQ⟩:=zx (q29z (if q24z s then some (q43z s 4) else none) w)
 rw[hQ] at HYes ⊢
 have hbl:=fun W:World=>q66z W
 rw[←slotsT_zero s] at hbl
 have hix:=dir_index s
 have HS:=zh hs
 have HDir:=zh hdir
 have HW:Hid ((⟨#[100,105,114]⟩:ByteArray)=ofL (q43z s 0)):=rfl
 unfold dirA dirL at hd hix
 simp only[if_pos (show 0<4 by omega),if_pos (show 1<4 by omega),if_pos (show 2<4 by omega),if_pos (show 3<4 by omega)] at hd hix
 have HD:=zh hd
 have HBL:=zh hbl
 have HIX:=zh hix
 clear hd hbl hix
 clear hQ hdir hm ht hk hs
 go_enter Tryz.func226,Tryz.ntmps226
 go_wp2_with fail
 refine(HD.out _ HM.out).mono ?_
 rintro e w1 ⟨rfl,hb1⟩
 obtain⟨W2,hW2⟩:=zx (w1.alloc (.cells #[.int .i64 (q2z s 0).inode,.string (q2z s 0).name,.int .i64 (q2z s 1).inode,.string (q2z s 1).name,.int .i64 (q2z s 2).inode,.string (q2z s 2).name,.int .i64 (q2z s 3).inode,.string (q2z s 3).name] 331))
 have HB2:Hid (Below w.heap.size w W2):=by rw[←hW2]; exact bl1 hb1 _
 have hz2:W2.heap[w1.heap.size]? = some (.cells #[.int .i64 (q2z s 0).inode,.string (q2z s 0).name,.int .i64 (q2z s 1).inode,.string (q2z s 1).name,.int .i64 (q2z s 2).inode,.string (q2z s 2).name,.int .i64 (q2z s 3).inode,.string (q2z s 3).name] 331 (0,0)):=by rw[←hW2]; exact q5z w1 _
 have HZ2:=zh hz2
 clear hb1 hz2
 go_wp2_with fail
 clear hW2
 refine(HBL.out _).mono ?_
 rintro e w3 ⟨rfl,hb3⟩
 have HB3:=zh (blN HB2.out hb3)
 have hz:=q1z hb3 HZ2.out
 have y0:w3.cell? ⟨w1.heap.size,0,none⟩=some (.int .i64 (q2z s 0).inode):=cellOf hz rfl
 have y1:w3.cell? ⟨w1.heap.size,1,none⟩=some (.string (q2z s 0).name):=cellOf hz rfl
 have y2:w3.cell? ⟨w1.heap.size,2,none⟩=some (.int .i64 (q2z s 1).inode):=cellOf hz rfl
 have y3:w3.cell? ⟨w1.heap.size,3,none⟩=some (.string (q2z s 1).name):=cellOf hz rfl
 have y4:w3.cell? ⟨w1.heap.size,4,none⟩=some (.int .i64 (q2z s 2).inode):=cellOf hz rfl
 have y5:w3.cell? ⟨w1.heap.size,5,none⟩=some (.string (q2z s 2).name):=cellOf hz rfl
 have y6:w3.cell? ⟨w1.heap.size,6,none⟩=some (.int .i64 (q2z s 3).inode):=cellOf hz rfl
 have y7:w3.cell? ⟨w1.heap.size,7,none⟩=some (.string (q2z s 3).name):=cellOf hz rfl
 clear hb3 hz
 have hsz3:(ofL (padL (q46z s 0))).size=64:=slotsT_size HS.out (by omega)
 go_wp2_with fail
 rw[HW.out]
 clear y0 y1 y2 y3 y4 y5 y6 y7
 go_loopw [6,7,22] (fun l t i wr=>∃k:Nat,k≤4∧i = .int .i64 (k:Int)∧l = .string (ofL (q43z s k))∧t = .string (ofL (padL (q46z s k)))∧Hid (Below w.heap.size w wr)) (fun _ _ i _=>4-(intOf i).toNat)
 case atStart=>exact⟨0,Nat.zero_le _,rfl,rfl,rfl,HB3⟩
 case round=>
  obtain⟨k,hk,rfl,rfl,rfl,HB⟩:=hrel
  by_cases hlt:k<4
  ·have hlt2:(k:Int)<4:=by omega
   have hok:=(HDir.out.2 k hlt).1
   have hmay:=hok.2.1
   have hsl:=hok.2.2
   obtain⟨hn0,hn1,hnz⟩:=may_bd hmay
   have hix:=HIX.out k hlt
   have hst:=slotsT_step HS.out hlt
   have hln:=slotAt_length HS.out hlt
   have hwn:=wordsL_snoc s k
   obtain⟨⟨n,N⟩,hx⟩:∃x,q2z s k=x:=⟨_,rfl⟩
   rw[hx] at hmay hsl hn0 hn1 hnz hix hwn
   rw[←hsl] at hst hln
   simp only at hn0 hn1 hnz
   obtain⟨n,rfl⟩:∃q:Nat,n=(q:Int):=⟨n.toNat,by omega⟩
   have hput:=fun(W:World) (hm:MaxOk W)=>eput_any W (k:Int) ⟨(n:Int),N⟩ hm (by unfold maxLen; show N.size≤_; omega)
   unfold EPut eV at hput
   rw[if_neg (by omega),if_pos hmay] at hput
   obtain⟨p,hp⟩:=zx (16*k)
   rw[show(k:Int)*16=(p:Int) by omega] at hput
   rw[hp] at hst
   obtain⟨S,hS⟩:=zx (ofL (slotL ⟨(n:Int),N⟩))
   have hSd:S.data.toList=slotL ⟨(n:Int),N⟩:=by rw[←hS,q22z]
   have hS16:S.size=16:=by rw[←hS,q9z,hln]
   rw[hS] at hput
   rw[←hSd] at hst
   have hts:=slotsT_size HS.out (show k≤4 by omega)
   have htd:(ofL (padL (q46z s k))).data.toList=padL (q46z s k):=q22z _
   obtain⟨T,hT⟩:=zx (ofL (padL (q46z s k)))
   rw[hT] at hts htd
   have hpt:=fun(W:World) (v:Value) (hv:Pats W v [((p:Int),S)])=>fpatched_any W T v [((p:Int),S)] hv hts (by simp) (by
    intro q hq
    rw[List.mem_singleton] at hq
    subst hq
    exact⟨by simp only; omega,by simp only[hS16]; decide,by simp only[hS16]; decide,by simp only[hS16]; omega⟩)
   have hpe:q34z T.data.toList [((p:Int),S)]=q40z T.data.toList p S.data.toList:=rfl
   rw[hpe,htd,hst] at hpt
   have hzw:=wordsL_le s k
   have hzs:=slotW_le s k
   rw[hx] at hzs
   have hcat1:=q20z [32] (slotW ⟨(n:Int),N⟩)
   have hcat2:=q20z (q43z s k) (32 :: slotW ⟨(n:Int),N⟩)
   rw[←hwn] at hcat2
   have s1:(ofL (slotW ⟨(n:Int),N⟩)).size≤100:=by rw[q9z]; exact hzs
   have s2:(ofL (32 :: slotW ⟨(n:Int),N⟩)).size≤101:=by rw[q9z,List.length_cons]; omega
   have s3:(ofL (q43z s k)).size≤1000:=by rw[q9z]; omega
   have hw0:n=0→(⟨#[45]⟩:ByteArray)=ofL (slotW ⟨(n:Int),N⟩):=fun h=>by rw[h]; rfl
   have hw1:0<n→ofL (q3z n) ++ (⟨#[58]⟩:ByteArray) ++ ofL (hexL N.data.toList)=ofL (slotW ⟨(n:Int),N⟩):=fun h=>by
    rw[slotW_one h]
    show ofL (q3z n) ++ ofL [58] ++ ofL (hexL N.data.toList)=_
    rw[q20z,q20z,List.append_assoc]
    rfl
   obtain⟨Wd,hWd⟩:=zx (ofL (slotW ⟨(n:Int),N⟩))
   obtain⟨X,hX⟩:=zx (ofL (32 :: slotW ⟨(n:Int),N⟩))
   obtain⟨L,hL⟩:=zx (ofL (q43z s k))
   obtain⟨M,hM⟩:=zx (ofL (q43z s (k+1)))
   obtain⟨T2,hT2⟩:=zx (ofL (padL (q46z s (k+1))))
   change ofL [32] ++ ofL (slotW ⟨(n:Int),N⟩)=ofL (32 :: slotW ⟨(n:Int),N⟩) at hcat1
   rw[hWd] at hcat1 s1 hw0 hw1
   rw[hX] at hcat1 hcat2 s2
   rw[hL] at hcat2 s3
   rw[hM] at hcat2
   rw[hT2] at hpt
   rw[hL,hT]
   change (⟨#[32]⟩:ByteArray) ++ Wd=X at hcat1
   have hl1:¬9223372036854775807<1+Wd.size:=by omega
   have hl2:¬9223372036854775807<L.size+X.size:=by omega
   have HMM:=zh hM
   have HTT:=zh hT2
   have HN:=zh hnz
   have HW0:=zh hw0
   have HW1:=zh hw1
   have HPUT:=zh hput
   have HPT:=zh hpt
   clear hput hpt
   clear hn0 hS hSd hts htd hT hWd hX hL hM hT2 hzw hzs hwn hst hsl hok hmay hx hln hp hpe hw0 hw1 hnz s1 s2 s3
   obtain⟨W4,hW4⟩:=zx (wr.alloc (.cells #[.int .i64 (n:Int),.string N] 330))
   have HB4:Hid (Below w.heap.size w W4):=by rw[←hW4]; exact bl1 HB.out _
   have hz4:W4.heap[wr.heap.size]? = some (.cells #[.int .i64 (n:Int),.string N] 330 (0,0)):=by rw[←hW4]; exact q5z wr _
   have HKX:Hid (∀W,Below W4.heap.size W4 W→W.cell? ⟨wr.heap.size,0,none⟩=some (.int .i64 (n:Int))∧W.cell? ⟨wr.heap.size,1,none⟩=some (.string N)):=fun W hW=>⟨cellOf (q1z hW hz4) rfl,cellOf (q1z hW hz4) rfl⟩
   clear hz4
   obtain⟨x0,x1⟩:=HKX.out W4 (Below.refl _ _)
   by_cases hn:0<n
   rotate_left
   focus
    have hcat0:(⟨#[32]⟩:ByteArray) ++ ⟨#[45]⟩=X:=by rw[HW0.out (by omega)]; exact hcat1
    go_wp2_with fail
    clear x0 x1 hcat0
    obtain⟨w5,hw5⟩:=zx (W4)
    have HB5:Hid (Below W4.heap.size W4 w5):=by rw[←hw5]; exact Below.refl _ _
    rw[hw5]
    clear hw5
   rotate_left
   focus
    have hnum:=fun(W:World) (h:TabOk W)=>dnumber_any W n (by omega) h
    have hhex:=fun W:World=>dhex_any W N (by have:=HN.out; omega)
    have hc1:=q20z (q3z n) [58]
    have q1:(ofL (q3z n)).size≤19:=by rw[q9z]; exact q41z (by omega)
    have q2:(ofL (q3z n ++ [58])).size≤20:=by rw[q9z,List.length_append]; rw[q9z] at q1; simp; omega
    have q3:(ofL (hexL N.data.toList)).size≤26:=by
     rw[q9z,q92z]
     have:N.data.toList.length=N.size:=Array.length_toList
     have:=HN.out
     omega
    have hc2:=HW1.out hn
    change ofL (q3z n) ++ ofL [58] ++ ofL (hexL N.data.toList)=Wd at hc2
    rw[hc1] at hc2
    obtain⟨D,hD⟩:=zx (ofL (q3z n))
    obtain⟨DX,hDX⟩:=zx (ofL (q3z n ++ [58]))
    obtain⟨H,hH⟩:=zx (ofL (hexL N.data.toList))
    rw[hD] at hnum hc1 q1
    rw[hDX] at hc1 hc2 q2
    rw[hH] at hhex hc2 q3
    change D ++ (⟨#[58]⟩:ByteArray)=DX at hc1
    have hl3:¬9223372036854775807<D.size+1:=by omega
    have hl4:¬9223372036854775807<DX.size+H.size:=by omega
    have HTB:Hid (∀W,Below W4.heap.size W4 W→TabOk W):=fun W hW=>HT.out.below (blN HB4.out hW)
    have HNUM:=zh hnum
    have HHEX:=zh hhex
    clear hnum hhex
    clear hD hDX hH q1 q2 q3
    go_wp2_with fail
    clear x0 x1
    go_region_held3 (fun W=>W.cell? ⟨wr.heap.size,0,none⟩=some (.int .i64 (n:Int))∧W.cell? ⟨wr.heap.size,1,none⟩=some (.string N))
     ((refine HKX.out _ ?_; repeat' first | with_reducible exact Below.refl _ _ | with_reducible exact HBa.out | with_reducible exact HB5.out | with_reducible refine blD ?_ | with_reducible refine bl1 ?_ _))
     (first
       | (go_at_call 159
          refine(HNUM.out _ ?a1).mono ?_
          case a1=>
           refine HTB.out _ ?_
           repeat' first | with_reducible exact Below.refl _ _ | with_reducible refine blD ?_ | with_reducible refine bl1 ?_ _
          rintro e wa ⟨rfl,hba⟩
          have HBa:Hid (Below W4.heap.size W4 wa):=blN (by repeat' first | with_reducible exact Below.refl _ _ | with_reducible refine blD ?_ | with_reducible refine bl1 ?_ _) hba
          clear hba
          simp only)
       | (go_at_call 227
          refine(HHEX.out _).mono ?_
          rintro e w5 ⟨rfl,hb5⟩
          have HB5:Hid (Below W4.heap.size W4 w5):=blN (by repeat' first | with_reducible exact HBa.out | with_reducible refine blD ?_ | with_reducible refine bl1 ?_ _) hb5
          clear hb5
          simp only))
    all_goals
     go_wp2_with fail
   all_goals
    refine(HPUT.out _ (HM.out.below (blN HB4.out HB5.out))).mono ?_
    rintro e w6 ⟨rfl,hb6⟩
    have HB6:=zh (blN (blN HB4.out HB5.out) hb6)
    clear hb6
    obtain⟨W7,hW7⟩:=zx (w6.alloc (.cells #[.int .i64 (p:Int),.string S] 167))
    have HB7:Hid (Below w.heap.size w W7):=by rw[←hW7]; exact bl1 HB6.out _
    have hz7:W7.heap[w6.heap.size]? = some (.cells #[.int .i64 (p:Int),.string S] 167 (0,0)):=by rw[←hW7]; exact q5z w6 _
    have p0:=zc 0 hz7
    have p1:=zc 1 hz7
    clear hz7
    go_wp2_with fail
    refine(HPT.out _ _ (pats_one (q5z W7 _))).mono ?_
    rintro e w8 ⟨rfl,hb8⟩
    have HB8:=zh (blN (bl1 HB7.out _) hb8)
    clear hb8 p0 p1 hW7
    go_wp2
    go_roundw
    case rel=>exact⟨k+1,by omega,by go_num,by rw[HMM.out],by rw[HTT.out],HB8⟩
    case measure=>simp[intOf]; omega
  ·obtain rfl:k=4:=by omega
   have hlt2:¬(4:Int)<4:=by omega
   rw[slotsT_all HS.out]
   have fs:(s.toList == s.toList)=true:=beq_self_eq_true _
   go_wp2
   first | exact HYes.out _ HB.out | (go_ret2; exact HYes.out _ HB.out)
end
