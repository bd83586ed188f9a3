import Derived.Test.YtmljdnlmpiklgaaGreatDoorLoadLib
import Derived.Lib.BufferRead
set_option maxRecDepth 20000
set_option maxHeartbeats 8000000
namespace Go.Proofs.YtmljdnlmpiklgaaGreatDoor
open Go Go.RowKit Txt Sp
section
theorem rgcheck_any (w:World) (g:Sp.Geom):Calls Tryz.prog 19 #[gV g] w fun e w'=>e = .returned (.int .i64 g.check)∧Below w.heap.size w w':=by
 obtain⟨a,b,c⟩:=g
 by_cases hg:(⟨a,b,c⟩:Sp.Geom).ok
 ·rw[Geom.check_ok hg]
  have HG:Hid (1≤a∧a≤4∧1≤b∧b≤32∧1≤c∧c≤64):=hg
  clear hg
  unfold gV
  go_enter Tryz.func19,Tryz.ntmps19
  go_wp2
  all_goals first | (go_ret; exact⟨rfl,bl2 _⟩) | (exfalso; have:=HG.out; omega)
 ·rw[Geom.check_no hg]
  have HG:Hid (¬(1≤a∧a≤4∧1≤b∧b≤32∧1≤c∧c≤64)):=hg
  clear hg
  unfold gV
  go_enter Tryz.func19,Tryz.ntmps19
  go_wp2
  all_goals first | (go_ret; exact⟨rfl,bl2 _⟩) | (exfalso; have:=HG.out; omega)
theorem rgregions_any (w:World) (g:Sp.Geom):Calls Tryz.prog 99 #[gV g] w fun e w'=>e = .returned (.int .i64 g.regions)∧Below w.heap.size w w':=by
 have hch:=fun W:World=>rgcheck_any W g
 by_cases hg:g.ok
 ·rw[Geom.check_ok hg] at hch
  rw[Geom.regions_ok hg]
  have hp:=Geom.prod hg
  have hg2:1≤g.groups∧g.groups≤4:=⟨hg.1,hg.2.1⟩
  obtain⟨ga,gb,gc⟩:=g
  unfold gV at hch ⊢
  simp only at hp hg2 ⊢
  obtain⟨p,hpp⟩:=zx (ga*gb)
  have e1:IntKind.i64.wrap (ga*gb)=p:=by rw[IntWalk.i64_in _ (by omega)]; exact hpp
  rw[hpp] at hp ⊢
  have e2:IntKind.i64.wrap (ga+p)=ga+p:=IntWalk.i64_in _ (by omega)
  clear hg hpp
  have HCH:=zh hch
  clear hch
  obtain⟨W0,hW0⟩:=zg w ga gb gc
  have hk:=g_keep hW0
  have HB0:=zh hk.1
  have HK:=zh hk.2
  clear hk
  obtain⟨z0,z1,z2⟩:=HK.out W0 (Below.refl _ _)
  go_enter Tryz.func99,Tryz.ntmps99
  go_wp2_with fail
  refine(HCH.out _).mono ?_
  rintro e w1 ⟨rfl,hb1⟩
  have HB1:=zh (blN (Below.refl _ _) hb1)
  clear hb1
  clear z0 z1 z2
  obtain⟨z0,z1,z2⟩:=HK.out w1 HB1.out
  go_wp2
  go_ret
  exact⟨rfl,blN HB0.out HB1.out⟩
 ·rw[Geom.check_no hg] at hch
  have hr:g.regions=0:=if_neg hg
  rw[hr]
  obtain⟨ga,gb,gc⟩:=g
  unfold gV at hch ⊢
  clear hg hr
  have HCH:=zh hch
  clear hch
  obtain⟨W0,hW0⟩:=zg w ga gb gc
  have hk:=g_keep hW0
  have HB0:=zh hk.1
  have HK:=zh hk.2
  clear hk
  obtain⟨z0,z1,z2⟩:=HK.out W0 (Below.refl _ _)
  go_enter Tryz.func99,Tryz.ntmps99
  go_wp2_with fail
  refine(HCH.out _).mono ?_
  rintro e w1 ⟨rfl,hb1⟩
  have HB1:=zh (blN (Below.refl _ _) hb1)
  clear hb1
  clear z0 z1 z2
  go_wp2
  go_ret
  exact⟨rfl,blN HB0.out HB1.out⟩
theorem rginodes_any (w:World) (g:Sp.Geom):Calls Tryz.prog 181 #[gV g] w fun e w'=>e = .returned (.int .i64 g.many)∧Below w.heap.size w w':=by
 have hch:=fun W:World=>rgcheck_any W g
 by_cases hg:g.ok
 ·rw[Geom.check_ok hg] at hch
  rw[Geom.many_ok hg]
  have hp:=Geom.prod hg
  obtain⟨ga,gb,gc⟩:=g
  unfold gV at hch ⊢
  simp only at hp ⊢
  obtain⟨p,hpp⟩:=zx (ga*gb)
  have e1:IntKind.i64.wrap (ga*gb)=p:=by rw[IntWalk.i64_in _ (by omega)]; exact hpp
  rw[hpp] at hp ⊢
  clear hg hpp
  have HCH:=zh hch
  clear hch
  obtain⟨W0,hW0⟩:=zg w ga gb gc
  have hk:=g_keep hW0
  have HB0:=zh hk.1
  have HK:=zh hk.2
  clear hk
  obtain⟨z0,z1,z2⟩:=HK.out W0 (Below.refl _ _)
  go_enter Tryz.func181,Tryz.ntmps181
  go_wp2_with fail
  refine(HCH.out _).mono ?_
  rintro e w1 ⟨rfl,hb1⟩
  have HB1:=zh (blN (Below.refl _ _) hb1)
  clear hb1
  clear z0 z1 z2
  obtain⟨z0,z1,z2⟩:=HK.out w1 HB1.out
  go_wp2
  go_ret
  exact⟨rfl,blN HB0.out HB1.out⟩
 ·rw[Geom.check_no hg] at hch
  have hr:g.many=0:=if_neg hg
  rw[hr]
  obtain⟨ga,gb,gc⟩:=g
  unfold gV at hch ⊢
  clear hg hr
  have HCH:=zh hch
  clear hch
  obtain⟨W0,hW0⟩:=zg w ga gb gc
  have hk:=g_keep hW0
  have HB0:=zh hk.1
  have HK:=zh hk.2
  clear hk
  obtain⟨z0,z1,z2⟩:=HK.out W0 (Below.refl _ _)
  go_enter Tryz.func181,Tryz.ntmps181
  go_wp2_with fail
  refine(HCH.out _).mono ?_
  rintro e w1 ⟨rfl,hb1⟩
  have HB1:=zh (blN (Below.refl _ _) hb1)
  clear hb1
  clear z0 z1 z2
  go_wp2
  go_ret
  exact⟨rfl,blN HB0.out HB1.out⟩
end
def byC (b:UInt8):List Value:=[.int .u8 (b.toNat:Int)]
def Bytes (base:Nat) (w:World) (v:Value) (l:List UInt8):Prop:=OwnR 5 1 byC base w v l
theorem byC_flat (l:List UInt8):l.flatMap byC=l.map (fun b=>Value.int .u8 (b.toNat:Int)):=by
 induction l with
 | nil=>rfl
 | cons a r ih=>rw[List.flatMap_cons,ih]; rfl
theorem bytes_of {base:Nat} {w:World} {v:Value} {l:List UInt8} (h:Bytes base w v l):(convert 36 9 v).run Tryz.prog w = .ok (.string (ofL l)) w:=by
 obtain⟨h1,⟨rfl,h0⟩ | ⟨g,cap,cur,rfl,hg,hh,h2,h3,h4,h5⟩⟩:=h
 ·obtain rfl:l=[]:=List.length_eq_zero_iff.1 h0
  exact Lib.run_convert_nil_bytes w _ _ _ 0 Tryz.underlying36 Tryz.underlying5 Tryz.underlying9
 ·refine bytes_text (l:=l) Tryz.underlying36 Tryz.underlying5 Tryz.underlying9 hh (fun j hj=>?_) cap
  rw[byC_flat,Nat.mul_one] at h5
  have h6:(cur.toList.take l.length)[j]? = some (.int .u8 (l[j].toNat:Int)):=by
   rw[h5,List.getElem?_map,List.getElem?_eq_getElem hj]
   rfl
  rw[List.getElem?_take_of_lt hj] at h6
  rw[←Array.getElem?_toList]
  exact h6
theorem numL_take {s:ByteArray} {k b:Nat} (h:k<s.size) (hb:0<b):numL ((s.data.toList.drop k).take b)=s[k].toNat+256*numL ((s.data.toList.drop (k+1)).take (b-1)):=by
 obtain⟨b,rfl⟩:∃c,b=c+1:=⟨b-1,by omega⟩
 rw[drop_get h,List.take_succ_cons,Nat.add_sub_cancel]
 rfl
theorem numL_bd (l:List UInt8) (k:Nat):numL (l.take k)<256 ^ k:=by
 have h:=Sp.numL_lt (l.take k)
 have hl:(l.take k).length≤k:=List.length_take_le _ _
 exact Nat.lt_of_lt_of_le h (Nat.pow_le_pow_right (by decide) hl)
section
theorem rwide_any (w:World) (b:Int):Calls Tryz.prog 184 #[.int .i64 b] w fun e w'=>e = .returned (.bool (decide (wide b)))∧w' = w:=by
 by_cases h1:b=1
 ·have hd:decide (wide b)=true:=decide_eq_true (Or.inl h1)
  rw[hd]
  subst h1
  go_enter Tryz.func184,Tryz.ntmps184
  go_wp2
  go_ret
  exact⟨rfl,rfl⟩
 by_cases h2:b=2
 ·have hd:decide (wide b)=true:=decide_eq_true (Or.inr (Or.inl h2))
  rw[hd]
  subst h2
  go_enter Tryz.func184,Tryz.ntmps184
  go_wp2
  go_ret
  exact⟨rfl,rfl⟩
 by_cases h3:b=4
 ·have hd:decide (wide b)=true:=decide_eq_true (Or.inr (Or.inr h3))
  rw[hd]
  subst h3
  go_enter Tryz.func184,Tryz.ntmps184
  go_wp2
  go_ret
  exact⟨rfl,rfl⟩
 have hd:decide (wide b)=false:=decide_eq_false (fun h=>by rcases h with h | h | h <;> omega)
 rw[hd]
 have f1:(b == 1)=false:=beq_eq_false_iff_ne.2 h1
 have f2:(b == 2)=false:=beq_eq_false_iff_ne.2 h2
 have f3:(b == 4)=false:=beq_eq_false_iff_ne.2 h3
 clear h1 h2 h3 hd
 go_enter Tryz.func184,Tryz.ntmps184
 go_wp2
 go_ret
 exact⟨rfl,rfl⟩
theorem rwithin_any (w:World) (off b:Int):Calls Tryz.prog 185 #[.int .i64 off,.int .i64 b] w fun e w'=>e = .returned (.bool (decide (inside off b)))∧w' = w:=by
 by_cases h2:1≤b
 rotate_left
 ·have hd:Hid (decide (inside off b)=false):=decide_eq_false (fun h=>h2 h.2.1)
  rw[hd.out]
  go_enter Tryz.func185,Tryz.ntmps185
  go_wp2
  go_ret
  exact⟨rfl,rfl⟩
 by_cases h3:b≤64
 rotate_left
 ·have hd:Hid (decide (inside off b)=false):=decide_eq_false (fun h=>h3 h.2.2.1)
  rw[hd.out]
  go_enter Tryz.func185,Tryz.ntmps185
  go_wp2
  go_ret
  exact⟨rfl,rfl⟩
 by_cases h1:0≤off
 rotate_left
 ·have hd:Hid (decide (inside off b)=false):=decide_eq_false (fun h=>h1 h.1)
  rw[hd.out]
  go_enter Tryz.func185,Tryz.ntmps185
  go_wp2
  go_ret
  exact⟨rfl,rfl⟩
 have e1:IntKind.i64.wrap (64-b)=64-b:=IntWalk.i64_in _ (by omega)
 by_cases h4:off≤64-b
 rotate_left
 ·have hd:Hid (decide (inside off b)=false):=decide_eq_false (fun h=>h4 h.2.2.2)
  rw[hd.out]
  go_enter Tryz.func185,Tryz.ntmps185
  go_wp2
  go_ret
  exact⟨rfl,rfl⟩
 have hd:Hid (decide (inside off b)=true):=decide_eq_true ⟨h1,h2,h3,h4⟩
 rw[hd.out]
 go_enter Tryz.func185,Tryz.ntmps185
 go_wp2
 go_ret
 exact⟨rfl,rfl⟩
theorem q33z (w:World) (s:ByteArray) (off b:Nat) (hb:b≤4) (hs:s.size≤1000000) (h:off+b≤s.size):Calls Tryz.prog 108 #[.string s,.int .i64 (off:Int),.int .i64 (b:Int)] w fun e w'=>e = .returned (.int .i64 (numAt s off b:Int))∧w=w':=by
 have e0:IntKind.i64.wrap ((b:Int)-1)=(b:Int)-1:=IntWalk.i64_in _ (by omega)
 have HS:=zh h
 have HZ:=zh hs
 clear hs h
 go_enter Tryz.func108,Tryz.ntmps108
 go_wp2
 go_loopw [7,8] (fun n i wr=>∃j:Nat,j≤b∧i = .int .i64 ((j:Int)-1)∧n = .int .i64 (numL ((s.data.toList.drop (off+j)).take (b-j)):Int)∧w=wr) (fun _ i _=>((intOf i)+1).toNat)
 case atStart=>exact⟨b,Nat.le_refl _,rfl,by rw[Nat.sub_self,List.take_zero]; rfl,rfl⟩
 case round=>
  obtain⟨j,hj,rfl,rfl,rfl⟩:=hrel
  by_cases hlt:0<j
  ·obtain⟨i,rfl⟩:∃i,j=i+1:=⟨j-1,by omega⟩
   have hx:=numL_take (s:=s) (k:=off+i) (b:=b-i) (by have:=HS.out; omega) (by omega)
   rw[show b-i-1=b-(i+1) by omega,show off+i+1=off+(i+1) by omega] at hx
   have ht:=text_at (w:=w) (s:=s) (k:=off) (j:=i) (by have:=HS.out; omega)
   have hbd:=numL_bd (s.data.toList.drop (off+(i+1))) (b-(i+1))
   have hp:256 ^ (b-(i+1))≤256 ^ 3:=Nat.pow_le_pow_right (by decide) (by omega)
   have h3:(256:Nat) ^ 3=16777216:=by decide
   obtain⟨c,hc⟩:=zx ((s[off+i]'(by have:=HS.out; omega)).toNat)
   have hcb:c<256:=by rw[←hc]; exact UInt8.toNat_lt _
   rw[hc] at hx ht
   obtain⟨n,hn⟩:=zx (numL ((s.data.toList.drop (off+(i+1))).take (b-(i+1))))
   rw[hn] at hx hbd ⊢
   rw[h3] at hp
   have hn3:n<16777216:=by omega
   have i1:((i+1:Nat):Int)-1=(i:Int):=by omega
   rw[i1]
   have f1:decide ((i:Int)≥0)=true:=decide_eq_true (by omega)
   have f2:¬((i:Int)<0):=by omega
   have e1:IntKind.i64.wrap ((n:Int)*256)=(n:Int)*256:=IntWalk.i64_in _ (by omega)
   have e2:IntKind.i64.wrap ((off:Int)+(i:Int))=(off:Int)+(i:Int):=IntWalk.i64_in _ (by have:=HS.out; have:=HZ.out; omega)
   have e3:IntKind.i64.wrap ((n:Int)*256+(c:Int))=(n:Int)*256+(c:Int):=IntWalk.i64_in _ (by omega)
   have HX:=zh hx
   clear hx hc hn hbd hp h3
   go_wp2
   go_roundw
   case rel=>exact⟨i,by omega,by go_num,by rw[HX.out]; congr 1; omega,by first | rfl | trivial⟩
   case measure=>first | (simp[intOf]; done) | (simp[intOf]; omega)
  ·obtain rfl:j=0:=by omega
   rw[Nat.add_zero,Nat.sub_zero]
   have HN:Hid (numAt s off b=numL ((s.data.toList.drop off).take b)):=rfl
   have f1:decide (((0:Nat):Int)-1≥0)=false:=by decide
   go_wp2
   go_ret
   exact⟨by rw[HN.out]; rfl,rfl⟩
theorem rget_any (w:World) (s:ByteArray) (off b:Int):Calls Tryz.prog 148 #[.string s,.int .i64 off,.int .i64 b] w fun e w'=>e = .returned (.tuple #[.int .i64 (getN s off b),.int .i64 (getC s off b)])∧w=w':=by
 have hwd:=fun W:World=>rwide_any W b
 have hin:=fun W:World=>rwithin_any W off b
 by_cases hs:s.size=64
 rotate_left
 ·have hc:getC s off b=4:=if_pos hs
  have hn:getN s off b=0:=if_neg (by rw[hc]; decide)
  rw[hc,hn]
  have f:((s.size:Int) == 64)=false:=beq_eq_false_iff_ne.2 (by omega)
  have f2:((s.size:Int) != 64)=true:=by rw[bne,f]; rfl
  clear hwd hin hc hn hs
  go_enter Tryz.func148,Tryz.ntmps148
  go_wp2
  go_ret2
  exact⟨rfl,rfl⟩
 have f:((s.size:Int) == 64)=true:=beq_iff_eq.2 (by omega)
 have f2:((s.size:Int) != 64)=false:=by rw[bne,f]; rfl
 by_cases hw:wide b
 rotate_left
 ·have hc:getC s off b=1:=by
   unfold getC
   rw[if_neg (by simp[hs]),if_neg (fun h=>hw h.1)]
  have hn:getN s off b=0:=if_neg (by rw[hc]; decide)
  rw[hc,hn]
  rw[decide_eq_false hw] at hwd
  have HWD:=zh hwd
  clear hwd
  clear hin hc hn hs hw
  go_enter Tryz.func148,Tryz.ntmps148
  go_wp2_with fail
  refine(HWD.out _).mono ?_
  rintro e w1 ⟨rfl,rfl⟩
  go_wp2
  go_ret2
  exact⟨rfl,rfl⟩
 rw[decide_eq_true hw] at hwd
 by_cases hi:inside off b
 rotate_left
 ·have hc:getC s off b=1:=by
   unfold getC
   rw[if_neg (by simp[hs]),if_neg (fun h=>hi h.2)]
  have hn:getN s off b=0:=if_neg (by rw[hc]; decide)
  rw[hc,hn]
  rw[decide_eq_false hi] at hin
  have HWD:=zh hwd
  have HIN:=zh hin
  clear hwd hin
  clear hc hn hs hw hi
  go_enter Tryz.func148,Tryz.ntmps148
  go_wp2_with fail
  refine(HWD.out _).mono ?_
  rintro e w1 ⟨rfl,rfl⟩
  go_wp2_with fail
  refine(HIN.out _).mono ?_
  rintro e w1 ⟨rfl,rfl⟩
  go_wp2
  go_ret2
  exact⟨rfl,rfl⟩
 rw[decide_eq_true hi] at hin
 have hc:getC s off b=0:=by
  unfold getC
  rw[if_neg (by simp[hs]),if_pos ⟨hw,hi⟩]
 have hn:getN s off b=(numAt s off.toNat b.toNat:Int):=if_pos hc
 rw[hc,hn]
 have hnum:=fun W:World=>q33z W s off.toNat b.toNat (by rcases hw with h | h | h <;> omega) (by omega) (by unfold inside at hi; omega)
 rw[Int.toNat_of_nonneg (by unfold inside at hi; omega),Int.toNat_of_nonneg (by unfold inside at hi; omega)] at hnum
 have HWD:=zh hwd
 have HIN:=zh hin
 have HNUM:=zh hnum
 clear hwd hin hnum
 clear hc hn hs hw hi
 go_enter Tryz.func148,Tryz.ntmps148
 go_wp2_with fail
 refine(HWD.out _).mono ?_
 rintro e w1 ⟨rfl,rfl⟩
 go_wp2_with fail
 refine(HIN.out _).mono ?_
 rintro e w1 ⟨rfl,rfl⟩
 go_wp2_with fail
 refine(HNUM.out _).mono ?_
 rintro e w1 ⟨rfl,rfl⟩
 go_wp2
 go_ret2
 exact⟨rfl,rfl⟩
theorem textL_snoc:∀(k n:Nat),textL (k+1) n=textL k n ++ [UInt8.ofNat (n / 256 ^ k % 256)]
 | 0,n=>by simp[textL]
 | k+1,n=>by
   show UInt8.ofNat (n % 256) :: textL (k+1) (n / 256)=UInt8.ofNat (n % 256) :: textL k (n / 256) ++ [_]
   rw[textL_snoc k (n / 256),Nat.div_div_eq_div_mul,Nat.pow_succ,Nat.mul_comm (256 ^ k) 256,List.cons_append]
theorem rtext_any (w:World) (n b:Nat) (hb:b≤4):Calls Tryz.prog 141 #[.int .i64 (n:Int),.int .i64 (b:Int)] w fun e w'=>e = .returned (.string (ofL (textL b n)))∧Below w.heap.size w w':=by
 have HO0:Hid (Bytes w.heap.size w (.slice none 0 0) (textL 0 n)):=OwnR.void _ _
 have HB0:Hid (Below w.heap.size w w):=Below.refl _ _
 go_enter Tryz.func141,Tryz.ntmps141
 go_wp2
 go_loopw [5,6] (fun v i wr=>∃j:Nat,j≤b∧i = .int .i64 (j:Int)∧Hid (Bytes w.heap.size wr v (textL j n))∧Hid (Below w.heap.size w wr)) (fun _ i _=>b-(intOf i).toNat)
 case atStart=>exact⟨0,Nat.zero_le _,rfl,HO0,HB0⟩
 case round=>
  obtain⟨j,hj,rfl,HO,HB⟩:=hrel
  by_cases hlt:j<b
  ·have f1:decide ((j:Int)<(b:Int))=true:=decide_eq_true (by omega)
   obtain⟨p,hp⟩:=zx (8*j)
   have e1:IntKind.i64.wrap (8*(j:Int))=(p:Int):=by rw[IntWalk.i64_in _ (by omega)]; omega
   have p0:(0:Int)≤(p:Int):=by omega
   have p1:(p:Int)≤64:=by omega
   have hpow:(2:Nat) ^ p=256 ^ j:=by rw[←hp,Nat.pow_mul]
   obtain⟨q,hq⟩:∃q:Nat,n / 256 ^ j=q:=⟨_,rfl⟩
   have e2:(n:Int) / 2 ^ p=(q:Int):=by
    have:((2:Int) ^ p)=((2 ^ p:Nat):Int):=by simp
    rw[this,hpow,←hq]
    rfl
   have hsn:=textL_snoc j n
   rw[hq] at hsn
   have hc:byC (UInt8.ofNat (q % 256))=[.int .u8 ((q:Int) % 256)]:=by
    unfold byC
    have:((UInt8.ofNat (q % 256)).toNat:Int)=(q:Int) % 256:=by rw[UInt8.toNat_ofNat']; omega
    rw[this]
   have hlen:(textL j n).length≤4:=by rw[textL_length]; omega
   obtain⟨y,hy⟩:=zx (UInt8.ofNat (q % 256))
   rw[hy] at hsn hc
   have HSN:=zh hsn
   have HC:=zh hc
   clear hsn hc hp hpow hq hy
   obtain⟨ia4,ib4,ic4,id4,ie4⟩:=info_parts infoU8
   have hrow4:=HO.out
   unfold OwnR at hrow4
   have HRow4:=zh hrow4
   clear hrow4
   have HIb4:=zh ib4
   have HIc4:=zh ic4
   have HId4:=zh id4
   have HIe4:=zh ie4
   clear ib4 ic4 id4 ie4
   go_wp2_with (at_builtin; refine wpList_append_lies _ rfl _ _ _ rfl w.heap.size 5 ia4 _ 1 1 Tryz.underlying36 HIb4.out HIc4.out HId4.out HIe4.out rfl (by decide) _ _ _ rfl (HRow4.out.alloc _) ⟨wr.heap.size,0,none⟩ 1 1 [.int .u8 ((q:Int) % 256)] rfl rfl (World.news_of_block (cs:=#[.int .u8 ((q:Int) % 256)]) (t:=5) (fr:=(0,0)) (heapNew wr _)) (by simp[Value.oneCell']) (by omega) ?c1 ?c2 ?c3 (wr.heap.size+1) (by simp) ?_)
   case c1=>unfold maxLen; omega
   case c2=>omega
   case c3=>have:=HB.out.size; first | (simp; done) | (simp; omega)
   intro g4 cap4 w4 hown4 hgrow4 hat4 hlt4
   have HO4:=zh (OwnR.snoc (f:=byC) (x:=y) hown4 HC.out rfl)
   have HB4:Hid (Below w.heap.size _ w4):=Below.grown (bl1 HB.out _) hgrow4 (bl1 HB.out _).size (fun q hq=>(HRow4.out.lt q hq).1)
   clear hown4 hgrow4 hat4 hlt4 HRow4
   have HO5:Hid (Bytes w.heap.size w4 (.slice (some ⟨g4,0,none⟩) ((textL j n).length+1) cap4) (textL (j+1) n)):=by rw[HSN.out]; exact HO4.out
   clear HO4
   go_wp2
   go_roundw
   case rel=>exact⟨j+1,by omega,by go_num,HO5,HB4⟩
   case measure=>simp[intOf]; omega
  ·have f1:decide ((j:Int)<(b:Int))=false:=decide_eq_false (by omega)
   obtain rfl:j=b:=by omega
   have hcv:=bytes_of HO.out
   go_wp2
   go_ret
   exact⟨rfl,HB.out⟩
end
def stC (s:ByteArray):List Value:=[.string s]
def RTexts (base:Nat) (w:World) (v:Value) (l:List ByteArray):Prop:=OwnR 9 1 stC base w v l
theorem stC_flat (l:List ByteArray):l.flatMap stC=l.map Value.string:=by
 induction l with
 | nil=>rfl
 | cons a r ih=>rw[List.flatMap_cons,ih]; rfl
theorem RTexts.own {base:Nat} {w:World} {v:Value} {l:List ByteArray} (h:RTexts base w v l):OwnTexts base w v l:=⟨_,by rw[←stC_flat]; exact h⟩
theorem leaseB_cons {o q:Nat} (ho:o<256):leaseB ((o:Int),(q:Int))=UInt8.ofNat o :: textL 3 q:=by
 unfold leaseB
 have e:((o:Int)+256*(q:Int)).toNat=o+256*q:=by omega
 simp only[e]
 show UInt8.ofNat ((o+256*q) % 256) :: textL 3 ((o+256*q) / 256)=_
 rw[show(o+256*q) % 256=o by omega,show(o+256*q) / 256=q by omega]
theorem tabB_one (l:List (Int×Int)) (n:Nat):tabB (n+1) l=tabB n l ++ [ofL (secB ((l.drop (16*n)).take 16))]:=by
 unfold tabB
 rw[List.range_succ,List.map_append,List.map_cons,List.map_nil]
section
theorem rtmay_any (w:World) (a b:Int):Calls Tryz.prog 142 #[.agg #[.int .i64 a,.int .i64 b]] w fun e w'=>e = .returned (.bool (decide (leaseOk (a,b))))∧Below w.heap.size w w':=by
 by_cases h1:0≤a
 rotate_left
 ·have hd:Hid (decide (leaseOk (a,b))=false):=decide_eq_false (fun h=>h1 h.1)
  rw[hd.out]
  go_enter Tryz.func142,Tryz.ntmps142
  go_wp2
  go_ret
  exact⟨rfl,bl2 _⟩
 by_cases h2:a≤2
 rotate_left
 ·have hd:Hid (decide (leaseOk (a,b))=false):=decide_eq_false (fun h=>h2 h.2.1)
  rw[hd.out]
  go_enter Tryz.func142,Tryz.ntmps142
  go_wp2
  go_ret
  exact⟨rfl,bl2 _⟩
 by_cases h3:0≤b
 rotate_left
 ·have hd:Hid (decide (leaseOk (a,b))=false):=decide_eq_false (fun h=>h3 h.2.2.1)
  rw[hd.out]
  go_enter Tryz.func142,Tryz.ntmps142
  go_wp2
  go_ret
  exact⟨rfl,bl2 _⟩
 by_cases h4:b≤16777215
 rotate_left
 ·have hd:Hid (decide (leaseOk (a,b))=false):=decide_eq_false (fun h=>h4 h.2.2.2)
  rw[hd.out]
  go_enter Tryz.func142,Tryz.ntmps142
  go_wp2
  go_ret
  exact⟨rfl,bl2 _⟩
 have hd:Hid (decide (leaseOk (a,b))=true):=decide_eq_true ⟨h1,h2,h3,h4⟩
 rw[hd.out]
 go_enter Tryz.func142,Tryz.ntmps142
 go_wp2
 go_ret
 exact⟨rfl,bl2 _⟩
theorem rttext_any (w:World) (a b:Int) (h:leaseOk (a,b)):Calls Tryz.prog 180 #[.agg #[.int .i64 a,.int .i64 b]] w fun e w'=>e = .returned (.string (ofL (leaseB (a,b))))∧Below w.heap.size w w':=by
 obtain⟨h1,h2,h3,h4⟩:=h
 simp only at h1 h2 h3 h4
 obtain⟨o,rfl⟩:∃n:Nat,a=(n:Int):=⟨a.toNat,by omega⟩
 obtain⟨q,rfl⟩:∃n:Nat,b=(n:Int):=⟨b.toNat,by omega⟩
 have ht:=fun W:World=>rtext_any W q 3 (by decide)
 have hlc:=leaseB_cons (o:=o) (q:=q) (by omega)
 rw[hlc]
 have hcat:=text_cat [UInt8.ofNat o] (textL 3 q)
 have s1:(ofL (textL 3 q)).size=3:=by rw[ofL_size,textL_length]
 obtain⟨A,hA⟩:=zx (ofL [UInt8.ofNat o])
 obtain⟨B,hB⟩:=zx (ofL (textL 3 q))
 obtain⟨C,hC⟩:=zx (ofL (UInt8.ofNat o :: textL 3 q))
 change ofL [UInt8.ofNat o] ++ ofL (textL 3 q)=ofL (UInt8.ofNat o :: textL 3 q) at hcat
 have sA:A.size=1:=by rw[←hA,ofL_size]; rfl
 rw[hA,hB,hC] at hcat
 rw[hB] at ht s1
 rw[hC]
 have hl:¬9223372036854775807<A.size+B.size:=by omega
 have m1:IntKind.u8.wrap (o:Int)=(o:Int):=IntWalk.u8_in _ (by omega)
 have hcvb:∀W b,W.heap[b]? = some (.cells #[.int .u8 (o:Int)] 5 (0,0))→(convert 36 9 (.slice (some ⟨b,0,none⟩) 1 1)).run Tryz.prog W = .ok (.string A) W:=fun W b hb=>by
  rw[←hA]
  exact bytes_text (l:=[UInt8.ofNat o]) (src:=36) (dst:=9) Tryz.underlying36 Tryz.underlying5 Tryz.underlying9 hb (fun j hj=>by
   match j,hj with
   | 0,_=>
     show some (Value.int .u8 (o:Int))=some (.int .u8 ((UInt8.ofNat o).toNat:Int))
     rw[UInt8.toNat_ofNat',Nat.mod_eq_of_lt (by omega)]) 1
 have HCB:=zh hcvb
 have HCV:Hid (∀W:World,(convert 36 9 (.slice (some ⟨W.heap.size,0,none⟩) 1 1)).run Tryz.prog (W.alloc (.cells #[.int .u8 (o:Int)] 5)) = .ok (.string A) (W.alloc (.cells #[.int .u8 (o:Int)] 5))):=fun W=>hcvb _ _ (heapNew W _)
 clear hcvb
 obtain⟨W0,hW0⟩:=zx (w.alloc (.cells #[.int .i64 (o:Int),.int .i64 (q:Int)] 97))
 have hz:W0.heap[w.heap.size]? = some (.cells #[.int .i64 (o:Int),.int .i64 (q:Int)] 97 (0,0)):=by rw[←hW0]; exact heapNew w _
 have HB0:Hid (Below w.heap.size w W0):=by rw[←hW0]; exact bl2 _
 have HK:Hid (∀W,Below W0.heap.size W0 W→W.cell? ⟨w.heap.size,0,none⟩=some (.int .i64 (o:Int))∧W.cell? ⟨w.heap.size,1,none⟩=some (.int .i64 (q:Int))):=fun W hW=>⟨cellOf (heapOld hW hz) rfl,cellOf (heapOld hW hz) rfl⟩
 have HT:=zh ht
 clear ht
 clear hA hB hC hz hlc s1 sA
 go_enter Tryz.func180,Tryz.ntmps180
 go_wp2_with fail
 obtain⟨ca,cb⟩:=HK.out W0 (Below.refl _ _)
 have hca:=fun o=>(HK.out (W0.alloc o) (bl2 o)).1
 have hcb:=fun o=>(HK.out (W0.alloc o) (bl2 o)).2
 have hcw:=HCV.out W0
 have hcw2:(convert 36 9 (.slice (some ⟨W0.heap.size,0,none⟩) 1 1)).run Tryz.prog (W0.alloc (.cells #[.int .u8 (o:Int)] 5)).drew = .ok (.string A) (W0.alloc (.cells #[.int .u8 (o:Int)] 5)).drew:=HCV.out W0.drew
 go_region_law (first
  | (go_simp
     go_at_call 141
     refine(HT.out _).mono ?_
     rintro e w1 ⟨rfl,hb1⟩
     have HB1:Hid (Below W0.heap.size W0 w1):=blN (by repeat' first | with_reducible exact Below.refl _ _ | with_reducible refine blD ?_ | with_reducible refine bl1 ?_ _) hb1
     obtain⟨cc,cd⟩:=HK.out w1 HB1.out
     have hce:=fun o=>(HK.out (w1.alloc o) (bl1 HB1.out o)).1
     have hcf:=fun o=>(HK.out (w1.alloc o) (bl1 HB1.out o)).2
     have hcx:=HCV.out w1
     try have hcy:=HCB.out w1 _ (heapOld hb1 (heapNew W0 _))
     clear hb1))
 all_goals
  go_wp2
  first | exact⟨rfl,blN HB0.out (by repeat' first | with_reducible exact HB1.out | with_reducible refine blD ?_ | with_reducible refine bl1 ?_ _)⟩ | (go_ret; exact⟨rfl,blN HB0.out (by repeat' first | with_reducible exact HB1.out | with_reducible refine blD ?_ | with_reducible refine bl1 ?_ _)⟩)
end
def inC (n:Nat):List Value:=[.int .i64 (n:Int)]
def RInts (base:Nat) (w:World) (v:Value) (l:List Nat):Prop:=OwnR 3 1 inC base w v l
theorem mapP_iff (l:List UInt8) (n:Nat):mapP l n=true↔∀j x,l[j]? = some x→x.toNat≤1∧(x.toNat=1→j<n):=by
 unfold mapP
 rw[Bool.and_eq_true,List.all_eq_true,List.all_eq_true]
 constructor
 ·rintro⟨h1,h2⟩ j x hx
  by_cases h:j<n
  ·have hm:x∈l.take n:=List.mem_iff_getElem?.2 ⟨j,by rw[List.getElem?_take_of_lt h]; exact hx⟩
   have:=h1 x hm
   simp only[Bool.or_eq_true,beq_iff_eq] at this
   rcases this with rfl | rfl
   ·exact⟨by decide,fun _=>h⟩
   ·exact⟨by decide,fun _=>h⟩
  ·have hm:x∈l.drop n:=List.mem_iff_getElem?.2 ⟨j-n,by rw[List.getElem?_drop,show n+(j-n)=j by omega]; exact hx⟩
   have:=h2 x hm
   simp only[beq_iff_eq] at this
   subst this
   exact⟨by decide,fun h=>absurd h (by decide)⟩
 ·intro h
  constructor
  ·intro x hx
   obtain⟨j,hj⟩:=List.mem_iff_getElem?.1 hx
   have hjn:j<n:=by
    have:=(List.getElem?_eq_some_iff.1 hj).1
    rw[List.length_take] at this
    omega
   rw[List.getElem?_take_of_lt hjn] at hj
   have:=(h j x hj).1
   have e:x.toNat=0∨x.toNat=1:=by omega
   simp only[Bool.or_eq_true,beq_iff_eq]
   rcases e with e | e
   ·exact Or.inl (UInt8.toNat_inj.1 e)
   ·exact Or.inr (UInt8.toNat_inj.1 e)
  ·intro x hx
   obtain⟨j,hj⟩:=List.mem_iff_getElem?.1 hx
   rw[List.getElem?_drop] at hj
   have:=h (n+j) x hj
   have e:x.toNat=0:=by omega
   simp only[beq_iff_eq]
   exact UInt8.toNat_inj.1 e
def RPlacesPost (s:ByteArray) (n:Int) (w:World) (e:Ending) (w':World):Prop:=
 ∃v,e = .returned (.tuple #[v,.int .i64 (mapC s n)])∧RInts w.heap.size w' v (if mapC s n=0 then placesL s.data.toList n.toNat else [])∧Below w.heap.size w w'
section
theorem rmany_any (w:World) (n:Int):Calls Tryz.prog 105 #[.int .i64 n] w fun e w'=>e = .returned (.bool (decide (1≤n∧n≤64)))∧w=w':=by
 by_cases h1:1≤n
 ·by_cases h2:n≤64
  ·rw[decide_eq_true ⟨h1,h2⟩]
   go_enter Tryz.func105,Tryz.ntmps105
   go_wp2
   go_ret
   exact⟨rfl,rfl⟩
  ·rw[decide_eq_false (fun h=>h2 h.2)]
   go_enter Tryz.func105,Tryz.ntmps105
   go_wp2
   go_ret
   exact⟨rfl,rfl⟩
 ·rw[decide_eq_false (fun h=>h1 h.1)]
  go_enter Tryz.func105,Tryz.ntmps105
  go_wp2
  go_ret
  exact⟨rfl,rfl⟩
theorem rmcheck_any (w:World) (s:ByteArray) (n:Int):Calls Tryz.prog 186 #[.string s,.int .i64 n] w fun e w'=>e = .returned (.int .i64 (mapC s n))∧w=w':=by
 have hmn:=fun W:World=>rmany_any W n
 by_cases hn:n<1∨64<n
 ·have hc:mapC s n=1:=if_pos hn
  rw[hc]
  rw[decide_eq_false (by omega)] at hmn
  have HMN:=zh hmn
  clear hmn
  clear hc hn
  go_enter Tryz.func186,Tryz.ntmps186
  go_wp2_with fail
  refine(HMN.out _).mono ?_
  rintro e w1 ⟨rfl,rfl⟩
  go_wp2
  go_ret
  exact⟨rfl,rfl⟩
 have hc0:mapC s n=if s.size=64∧mapP s.data.toList n.toNat=true then 0 else 3:=if_neg hn
 rw[decide_eq_true (by omega)] at hmn
 by_cases hs:s.size=64
 rotate_left
 ·have hc:mapC s n=3:=by rw[hc0,if_neg (fun h=>hs h.1)]
  rw[hc]
  have f:((s.size:Int) == 64)=false:=beq_eq_false_iff_ne.2 (by omega)
  have f2:((s.size:Int) != 64)=true:=by rw[bne,f]; rfl
  have HMN:=zh hmn
  clear hmn
  clear hc hn hc0 hs
  go_enter Tryz.func186,Tryz.ntmps186
  go_wp2_with fail
  refine(HMN.out _).mono ?_
  rintro e w1 ⟨rfl,rfl⟩
  go_wp2
  go_ret
  exact⟨rfl,rfl⟩
 obtain⟨m,rfl⟩:∃k:Nat,n=(k:Int):=⟨n.toNat,by omega⟩
 have hl:s.data.toList.length=64:=by rw[Array.length_toList]; exact hs
 have hget:∀j (hj:j<s.size),s.data.toList[j]? = some s[j]:=fun j hj=>by
  rw[List.getElem?_eq_getElem (by rw[hl]; omega)]
  rfl
 have hiff:=mapP_iff s.data.toList m
 rw[Int.toNat_natCast] at hc0
 have hbad:∀j (hj:j<s.size),¬(s[j].toNat≤1∧(s[j].toNat=1→j<m))→mapC s (m:Int)=3:=fun j hj h=>by
  rw[hc0,if_neg (fun h2=>h (hiff.1 h2.2 j s[j] (hget j hj)))]
 have hgood:(∀j (hj:j<s.size),s[j].toNat≤1∧(s[j].toNat=1→j<m))→mapC s (m:Int)=0:=fun h=>by
  rw[hc0,if_pos]
  refine⟨hs,hiff.2 (fun j x hx=>?_)⟩
  have hj:j<s.size:=by have:=(List.getElem?_eq_some_iff.1 hx).1; omega
  rw[hget j hj] at hx
  obtain rfl:=Option.some.inj hx
  exact h j hj
 obtain⟨c,hcc⟩:=zx (mapC s (m:Int))
 rw[hcc] at hbad hgood ⊢
 have f:((s.size:Int) == 64)=true:=beq_iff_eq.2 (by omega)
 have f2:((s.size:Int) != 64)=false:=by rw[bne,f]; rfl
 have HS:=zh hs
 have HMN:=zh hmn
 have HBAD:=zh hbad
 have HGOOD:=zh hgood
 clear hmn hbad hgood
 clear hn hc0 hs hiff hget hl hcc
 go_enter Tryz.func186,Tryz.ntmps186
 go_wp2_with fail
 refine(HMN.out _).mono ?_
 rintro e w1 ⟨rfl,rfl⟩
 go_wp2
 go_loopw [5] (fun i wr=>∃k:Nat,k≤64∧i = .int .i64 (k:Int)∧Hid (∀j (hj:j<s.size),j<k→s[j].toNat≤1∧(s[j].toNat=1→j<m))∧w=wr) (fun i _=>64-(intOf i).toNat)
 case atStart=>exact⟨0,Nat.zero_le _,rfl,fun j _ h=>absurd h (Nat.not_lt_zero _),rfl⟩
 case round=>
  obtain⟨k,hk,rfl,HA,rfl⟩:=hrel
  by_cases hlt:k<64
  ·have hks:k<s.size:=by rw[HS.out]; omega
   have f3:decide ((k:Int)<(s.size:Int))=true:=decide_eq_true (by omega)
   have hx:∀W:World,(Instr.index 9 (.string s) (.int .i64 (k:Int))).run Tryz.prog W = .ok (.int .u8 (s[k].toNat:Int)) W:=fun W=>text_lit W hks
   have hb:=HBAD.out k hks
   have HNext:Hid (s[k].toNat≤1∧(s[k].toNat=1→k<m)→∀j (hj:j<s.size),j<k+1→s[j].toNat≤1∧(s[j].toNat=1→j<m)):=fun h j hj hjk=>by
    by_cases e:j<k
    ·exact HA.out j hj e
    ·obtain rfl:j=k:=by omega
     exact h
   obtain⟨x,hxx⟩:∃x:Nat,s[k].toNat=x:=⟨_,rfl⟩
   rw[hxx] at hx hb HNext
   by_cases h1:x≤1
   ·have f4:decide ((x:Int) > 1)=false:=decide_eq_false (by omega)
    have f4':¬(1:Int)<(x:Int):=by omega
    by_cases h2:x=1
    ·have f5:((x:Int) == 1)=true:=beq_iff_eq.2 (by omega)
     by_cases h3:k<m
     ·have f6:decide ((k:Int)≥(m:Int))=false:=decide_eq_false (by omega)
      have f6':decide ((m:Int)≤(k:Int))=false:=decide_eq_false (by omega)
      have HA2:=zh (HNext.out ⟨h1,fun _=>h3⟩)
      clear hb hxx
      go_wp2
      go_roundw
      case rel=>exact⟨k+1,by omega,by go_num,HA2,by first | rfl | trivial⟩
      case measure=>simp[intOf]; omega
     ·have f6:decide ((k:Int)≥(m:Int))=true:=decide_eq_true (by omega)
      have f6':decide ((m:Int)≤(k:Int))=true:=decide_eq_true (by omega)
      obtain rfl:c=3:=hb (fun h=>h3 (h.2 h2))
      clear hb hxx
      go_wp2
      go_ret
      exact⟨rfl,rfl⟩
    ·have f5:((x:Int) == 1)=false:=beq_eq_false_iff_ne.2 (by omega)
     have HA2:=zh (HNext.out ⟨h1,fun h=>absurd h h2⟩)
     clear hb hxx
     go_wp2
     go_roundw
     case rel=>exact⟨k+1,by omega,by go_num,HA2,by first | rfl | trivial⟩
     case measure=>simp[intOf]; omega
   ·have f4:decide ((x:Int) > 1)=true:=decide_eq_true (by omega)
    have f4':decide ((1:Int)<(x:Int))=true:=decide_eq_true (by omega)
    obtain rfl:c=3:=hb (fun h=>h1 h.1)
    clear hb hxx
    go_wp2
    go_ret
    exact⟨rfl,rfl⟩
  ·obtain rfl:k=64:=by omega
   have f3:decide (((64:Nat):Int)<(s.size:Int))=false:=decide_eq_false (by rw[HS.out]; omega)
   have f3':decide ((64:Int)<(s.size:Int))=false:=f3
   obtain rfl:c=0:=HGOOD.out (fun j hj=>HA.out j hj (by rw[HS.out] at hj; exact hj))
   go_wp2
   go_ret
   exact⟨rfl,rfl⟩
theorem rplaces_any (w:World) (s:ByteArray) (n:Int):Calls Tryz.prog 149 #[.string s,.int .i64 n] w (RPlacesPost s n w):=by
 have hc:=fun W:World=>rmcheck_any W s n
 have hz:=mapC_zero (s:=s) (n:=n)
 obtain⟨c,hcc⟩:=zx (mapC s n)
 have HCc:=zh hcc
 rw[hcc] at hc hz
 by_cases h0:c=0
 rotate_left
 ·have HP:Hid (∀w',Below w.heap.size w w'→RPlacesPost s n w (.returned (.tuple #[.slice none 0 0,.int .i64 c])) w'):=fun w' hb=>⟨_,by rw[HCc.out],by rw[HCc.out,if_neg h0]; exact OwnR.void _ _,hb⟩
  obtain⟨Q,hQ⟩:=zx (RPlacesPost s n w)
  rw[hQ] at HP ⊢
  have f:(c == 0)=false:=beq_eq_false_iff_ne.2 h0
  have f2:(c != 0)=true:=by simp[h0]
  have HC:=zh hc
  clear hc
  clear hz hcc HCc hQ h0
  go_enter Tryz.func149,Tryz.ntmps149
  go_wp2_with fail
  refine(HC.out _).mono ?_
  rintro e w1 ⟨rfl,rfl⟩
  go_wp2
  first | exact HP.out _ (Below.refl _ _) | (go_ret2; exact HP.out _ (Below.refl _ _))
 obtain⟨h1,h2,h3⟩:=hz h0
 obtain⟨m,rfl⟩:∃k:Nat,n=(k:Int):=⟨n.toNat,by omega⟩
 subst h0
 have HP:Hid (∀v w',RInts w.heap.size w' v (placesL s.data.toList m)→Below w.heap.size w w'→RPlacesPost s (m:Int) w (.returned (.tuple #[v,.int .i64 0])) w'):=fun v w' ho hb=>⟨_,by rw[HCc.out],by rw[HCc.out,if_pos rfl]; exact ho,hb⟩
 obtain⟨Q,hQ⟩:=zx (RPlacesPost s (m:Int) w)
 rw[hQ] at HP ⊢
 have HSz:=zh h3
 have HO0:Hid (RInts w.heap.size w (.slice none 0 0) (placesL s.data.toList 0)):=OwnR.void _ _
 have HB0:Hid (Below w.heap.size w w):=Below.refl _ _
 have HC:=zh hc
 clear hc
 clear h3 hz hcc HCc hQ
 go_enter Tryz.func149,Tryz.ntmps149
 go_wp2_with fail
 refine(HC.out _).mono ?_
 rintro e w1 ⟨rfl,rfl⟩
 go_wp2
 go_loopw [7,8] (fun out i wr=>∃(k:Nat),k≤m∧i = .int .i64 (k:Int)∧Hid (RInts w.heap.size wr out (placesL s.data.toList k))∧Hid (Below w.heap.size w wr)) (fun _ i _=>m-(intOf i).toNat)
 case atStart=>exact⟨0,Nat.zero_le _,rfl,HO0,HB0⟩
 case round=>
  obtain⟨k,hk,rfl,HO,HB⟩:=hrel
  by_cases hlt:k<m
  ·have hks:k<s.size:=by rw[HSz.out]; omega
   have f3:decide ((k:Int)<(m:Int))=true:=decide_eq_true (by omega)
   have hx:∀W:World,(Instr.index 9 (.string s) (.int .i64 (k:Int))).run Tryz.prog W = .ok (.int .u8 (s[k].toNat:Int)) W:=fun W=>text_lit W hks
   have hsn:=placesL_snoc s.data.toList k
   have hgd:s.data.toList.getD k 0=s[k]:=by
    have hl:k<s.data.toList.length:=by rw[Array.length_toList]; exact hks
    rw[List.getD_eq_getElem?_getD,List.getElem?_eq_getElem hl]
    rfl
   rw[hgd] at hsn
   have hpl:=placesL_length s.data.toList k
   obtain⟨x,hxx⟩:=zx ((s[k].toNat:Int))
   rw[hxx] at hx
   by_cases h1:x=1
   ·have e1:(s[k] == 1)=true:=beq_iff_eq.2 (UInt8.toNat_inj.1 (by
     have h:s[k].toNat=1:=by omega
     rw[h]
     rfl))
    rw[e1,if_pos rfl] at hsn
    have f1:(x == 1)=true:=beq_iff_eq.2 h1
    obtain⟨L,hL⟩:=zx (placesL s.data.toList k)
    rw[hL] at hsn hpl HO
    have HSn:=zh hsn
    subst h1
    clear hsn hgd hxx e1 hks hL
    obtain⟨ia4,ib4,ic4,id4,ie4⟩:=info_parts infoInt
    have hrow4:=HO.out
    unfold OwnR at hrow4
    have HRow4:=zh hrow4
    clear hrow4
    have HIb4:=zh ib4
    have HIc4:=zh ic4
    have HId4:=zh id4
    have HIe4:=zh ie4
    clear ib4 ic4 id4 ie4
    go_wp2_with (at_builtin; refine wpList_append_lies _ rfl _ _ _ rfl w.heap.size 3 ia4 _ 1 8 Tryz.underlying79 HIb4.out HIc4.out HId4.out HIe4.out rfl (by decide) _ _ _ rfl (HRow4.out.alloc _) ⟨wr.heap.size,0,none⟩ 1 1 [.int .i64 (k:Int)] rfl rfl (World.news_of_block (cs:=#[.int .i64 (k:Int)]) (t:=3) (fr:=(0,0)) (heapNew wr _)) (by simp[Value.oneCell']) (by omega) ?c1 ?c2 ?c3 (wr.heap.size+1) (by simp) ?_)
    case c1=>unfold maxLen; omega
    case c2=>omega
    case c3=>have:=HB.out.size; first | (simp; done) | (simp; omega)
    intro g4 cap4 w4 hown4 hgrow4 hat4 hlt4
    have HO4:=zh (OwnR.snoc (f:=inC) (x:=k) hown4 rfl rfl)
    have HB4:Hid (Below w.heap.size _ w4):=Below.grown (bl1 HB.out _) hgrow4 (bl1 HB.out _).size (fun q hq=>(HRow4.out.lt q hq).1)
    clear hown4 hgrow4 hat4 hlt4 HRow4
    have HO5:Hid (RInts w.heap.size w4 (.slice (some ⟨g4,0,none⟩) (L.length+1) cap4) (placesL s.data.toList (k+1))):=by rw[HSn.out]; exact HO4.out
    clear HO4
    go_wp2
    go_roundw
    case rel=>exact⟨k+1,by omega,by go_num,HO5,HB4⟩
    case measure=>simp[intOf]; omega
   ·have e1:(s[k] == 1)=false:=beq_eq_false_iff_ne.2 (fun h=>h1 (by rw[←hxx,h]; rfl))
    rw[e1,if_neg (by simp),List.append_nil] at hsn
    have HO5:Hid (RInts w.heap.size wr u7 (placesL s.data.toList (k+1))):=by rw[hsn]; exact HO.out
    have f1:(x == 1)=false:=beq_eq_false_iff_ne.2 h1
    clear hsn hgd hxx e1 hks h1 hpl
    go_wp2
    go_roundw
    case rel=>exact⟨k+1,by omega,by go_num,HO5,HB⟩
    case measure=>simp[intOf]; omega
  ·obtain rfl:k=m:=by omega
   have f3:decide ((k:Int)<(k:Int))=false:=decide_eq_false (by omega)
   obtain⟨ad,cap,rfl⟩:=OwnR.form HO.out
   have HF:=zh (HP.out _ _ HO.out HB.out)
   go_wp2
   first | exact HF.out | (go_ret2; exact HF.out)
end
