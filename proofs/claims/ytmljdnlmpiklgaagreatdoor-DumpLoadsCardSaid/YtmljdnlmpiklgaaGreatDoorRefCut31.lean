import Derived.Test.YtmljdnlmpiklgaaGreatDoorSpLoadF
import Derived.Test.YtmljdnlmpiklgaaGreatDoorLoadAll
set_option maxRecDepth 20000
namespace Go.Proofs.YtmljdnlmpiklgaaGreatDoor
open Go Go.RowKit Txt Sp
theorem OwnR.texts {w:World} {base:Nat} {v:Value} {l:List ByteArray} (h:OwnR 9 1 textC base w v l):Texts w v l:=by
 unfold OwnR at h
 rw[textC_map] at h
 rcases h.2 with ⟨rfl,h0⟩ | ⟨g,cap,cur,rfl,hb,hh,hle,hm,hsz,hcur⟩
 ·rw[List.length_eq_zero_iff.1 h0]
  exact Texts.void w
 ·refine⟨_,cap,rfl,hle,hm,fun hp=>⟨g,0,rfl,(Array.getElem?_eq_some_iff.1 hh).1,fun j x hx=>?_⟩⟩
  rw[Nat.zero_add,h.cellAt j (by have:=(List.getElem?_eq_some_iff.1 hx).1; omega),List.getElem?_map,hx]
  rfl
theorem piece_of_cut (s:ByteArray) (f k:Nat):s.extract f k=ofL ((s.data.toList.drop f).take (k-f)):=by
 refine Txt.ext ?_
 rw[ofL_data,Lib.extract_data]
section
set_option maxHeartbeats 4000000
theorem rcut_any (w:World) (s:ByteArray) (c:UInt8) (hs:s.size≤4000000) :
 Calls Tryz.prog 20 #[.string s,.int .u8 (c.toNat:Int)] w fun e w'=>∃v,e = .returned v∧Texts w' v (q14z c s)∧Below w.heap.size w w':=by
 have hl:s.data.toList.length=s.size:=(Lib.size_eq s).symm
 obtain⟨n,hn⟩:=zx (s.size)
 have HN:=zh hn
 have HL:=zh (hl.trans hn)
 have hq:∀k (h:k<s.size),(((s[k]'h).toNat:Int) == (c.toNat:Int))=decide ((s[k]'h)=c):=fun k h=>by
  rw[Bool.eq_iff_iff,beq_iff_eq,decide_eq_true_iff]
  constructor
  ·intro h; exact UInt8.toNat_inj.1 (by omega)
  ·intro h; rw[h]
 obtain⟨z,hz⟩:∃z:Int,(c.toNat:Int)=z:=⟨_,rfl⟩
 rw[hz] at hq ⊢
 have HQ:=zh hq
 have hs4:n≤4000000:=by omega
 clear hl hz hq hs hn
 go_enter Tryz.func20,Tryz.ntmps20
 go_wp2_with fail
 go_loopw [5,6,7] (fun o f i wr=>∃(out:List (List UInt8)) (p k:Nat),k≤n+1∧f = .int .i64 (p:Int)∧i = .int .i64 (k:Int)∧p≤n+1∧Hid (CutI c s.data.toList k p out)∧Hid (OwnR 9 1 textC w.heap.size wr o (out.map ofL))∧Hid (Below w.heap.size w wr)) (fun _ _ i _=>n+1-(intOf i).toNat)
 case atStart=>exact⟨[],0,0,by omega,rfl,rfl,by omega,CutI.zero,OwnR.void _ _,Below.refl _ _⟩
 case round=>
  obtain⟨out,p,k,hk,rfl,rfl,hp,HI,HO,HB⟩:=hrel
  by_cases hle:k≤n
  ·have hpk:=HI.out.le (by rw[HL.out]; exact hle)
   have hol:(out.map ofL).length≤4000001:=by rw[List.length_map]; have:=HI.out.2.2; omega
   have f0:decide ((k:Int)≤(s.size:Int))=true:=decide_eq_true (by rw[HN.out]; omega)
   have hks:k≤s.size:=by rw[HN.out]; exact hle
   have hex:=piece_of_cut s p k
   obtain⟨OL,hOL⟩:=zx (out.map ofL)
   rw[hOL] at HO hol
   by_cases he:k=n
   ·have q:((k:Int) == (s.size:Int))=true:=beq_iff_eq.2 (by rw[HN.out]; omega)
    have HI2:Hid (CutI c s.data.toList (k+1) (k+1) (out ++ [(s.data.toList.drop p).take (k-p)])):=by
     have h:=HI.out
     have e:k=s.data.toList.length:=by rw[HL.out]; exact he
     rw[e] at h ⊢
     exact h.last
    have HX:Hid ((out ++ [(s.data.toList.drop p).take (k-p)]).map ofL=OL ++ [s.extract p k]):=by show _=_; rw[List.map_append,hex,hOL]; rfl
    clear he hex hOL
    obtain⟨ia2,ib2,ic2,id2,ie2⟩:=info_parts Tryz.infoText
    have hrow2:=HO.out
    unfold OwnR at hrow2
    have HRow2:=zh hrow2
    clear hrow2
    have HIb2:=zh ib2
    have HIc2:=zh ic2
    have HId2:=zh id2
    have HIe2:=zh ie2
    clear ib2 ic2 id2 ie2
    go_wp2_with (at_builtin; refine wpList_append_lies _ rfl _ _ _ rfl w.heap.size 9 ia2 _ 1 16 Tryz.underlying25 HIb2.out HIc2.out HId2.out HIe2.out rfl (by decide) _ _ _ rfl (HRow2.out.alloc _) ⟨wr.heap.size,0,none⟩ 1 1 [.string (s.extract p k)] rfl rfl (World.news_of_block (cs:=#[.string (s.extract p k)]) (t:=9) (fr:=(0,0)) (heapNew wr _)) (by simp[Value.oneCell']) (by omega) ?c1 ?c2 ?c3 (wr.heap.size+1) (by simp) ?_)
    case c1=>unfold maxLen; omega
    case c2=>omega
    case c3=>have:=HB.out.size; first | (simp; done) | (simp; omega)
    intro g2 cap2 w2 hown2 hgrow2 hat2 hlt2
    have HO2:=zh (OwnR.snoc (f:=textC) (x:=(s.extract p k)) hown2 rfl rfl)
    have HB2:Hid (Below w.heap.size _ w2):=Below.grown (bl1 HB.out _) hgrow2 (bl1 HB.out _).size (fun q hq=>(HRow2.out.lt q hq).1)
    clear hown2 hgrow2 hat2 hlt2 HRow2
    rw[←HX.out] at HO2
    go_wp2
    go_roundw
    case rel=>exact⟨_,k+1,k+1,by omega,by go_num,by go_num,by omega,HI2,HO2,HB2⟩
    case measure=>simp[intOf]; omega
   ·have q:((k:Int) == (s.size:Int))=false:=beq_eq_false_iff_ne.2 (by rw[HN.out]; omega)
    have hlt:k<s.size:=by rw[HN.out]; omega
    have hqk:=HQ.out k hlt
    have hat:=at_data s k hlt
    by_cases hc:(s[k]'hlt)=c
    ·rw[decide_eq_true hc] at hqk
     rw[hc] at hat
     have HI2:=zh (HI.out.hit hat)
     have HX:Hid ((out ++ [(s.data.toList.drop p).take (k-p)]).map ofL=OL ++ [s.extract p k]):=by show _=_; rw[List.map_append,hex,hOL]; rfl
     clear he hex hOL hc hat
     obtain⟨ia2,ib2,ic2,id2,ie2⟩:=info_parts Tryz.infoText
     have hrow2:=HO.out
     unfold OwnR at hrow2
     have HRow2:=zh hrow2
     clear hrow2
     have HIb2:=zh ib2
     have HIc2:=zh ic2
     have HId2:=zh id2
     have HIe2:=zh ie2
     clear ib2 ic2 id2 ie2
     go_wp2_with (at_builtin; refine wpList_append_lies _ rfl _ _ _ rfl w.heap.size 9 ia2 _ 1 16 Tryz.underlying25 HIb2.out HIc2.out HId2.out HIe2.out rfl (by decide) _ _ _ rfl (HRow2.out.alloc _) ⟨wr.heap.size,0,none⟩ 1 1 [.string (s.extract p k)] rfl rfl (World.news_of_block (cs:=#[.string (s.extract p k)]) (t:=9) (fr:=(0,0)) (heapNew wr _)) (by simp[Value.oneCell']) (by omega) ?c1 ?c2 ?c3 (wr.heap.size+1) (by simp) ?_)
     case c1=>unfold maxLen; omega
     case c2=>omega
     case c3=>have:=HB.out.size; first | (simp; done) | (simp; omega)
     intro g2 cap2 w2 hown2 hgrow2 hat2 hlt2
     have HO2:=zh (OwnR.snoc (f:=textC) (x:=(s.extract p k)) hown2 rfl rfl)
     have HB2:Hid (Below w.heap.size _ w2):=Below.grown (bl1 HB.out _) hgrow2 (bl1 HB.out _).size (fun q hq=>(HRow2.out.lt q hq).1)
     clear hown2 hgrow2 hat2 hlt2 HRow2
     rw[←HX.out] at HO2
     go_wp2
     go_roundw
     case rel=>exact⟨_,k+1,k+1,by omega,by go_num,by go_num,by omega,HI2,HO2,HB2⟩
     case measure=>simp[intOf]; omega
    ·rw[decide_eq_false hc] at hqk
     have HI2:=zh (HI.out.skip hat hc)
     rw[←hOL] at HO
     clear he hex hOL hc hat
     go_wp2
     go_roundw
     case rel=>exact⟨out,p,k+1,by omega,rfl,by go_num,by omega,HI2,HO,HB⟩
     case measure=>simp[intOf]; omega
  ·have f0:decide ((k:Int)≤(s.size:Int))=false:=decide_eq_false (by rw[HN.out]; omega)
   have hks:¬k≤s.size:=by rw[HN.out]; omega
   have hD:=HI.out.end (by rw[HL.out]; omega)
   have hT:=OwnR.texts HO.out
   rw[hD] at hT
   have HT:=zh hT
   clear hD hT
   go_wp2
   go_ret
   exact⟨_,rfl,HT.out,HB.out⟩
theorem rnum31_any (w:World) (s:ByteArray) (hs:s.size≤4000000000):Calls Tryz.prog 100 #[.string s] w fun e w'=>e = .returned (.int .i64 (numR s.data.toList))∧w' = w:=by
 have hl:s.data.toList.length=s.size:=(Lib.size_eq s).symm
 have hno:=fun(h:numP s.data.toList=none)=>numR_none h
 have hyes:=fun(n:Nat) (h:numP s.data.toList=some n)=>numR_some h
 obtain⟨R,hR⟩:=zx (numR s.data.toList)
 rw[hR] at hno hyes ⊢
 have q0:=empty_iff s
 by_cases h0:s.size=0
 ·obtain rfl:=hno (numP_out (Or.inl (List.length_eq_zero_iff.1 (by omega))))
  rw[decide_eq_true h0] at q0
  clear hno hyes hl hR h0 hs
  go_enter Tryz.func100,Tryz.ntmps100
  go_wp2
  first | exact⟨rfl,rfl⟩ | (go_ret; exact⟨rfl,rfl⟩)
 rw[decide_eq_false h0] at q0
 by_cases h12:12<s.size
 ·obtain rfl:=hno (numP_out (Or.inr (Or.inl (by omega))))
  have f1:decide ((s.size:Int) > 12)=true:=decide_eq_true (by omega)
  have f2:(12:Int)<(s.size:Int):=by omega
  clear hno hyes hl hR h0 hs
  go_enter Tryz.func100,Tryz.ntmps100
  go_wp2
  first | exact⟨rfl,rfl⟩ | (go_ret; exact⟨rfl,rfl⟩)
 have f1:decide ((s.size:Int) > 12)=false:=decide_eq_false (by omega)
 have f2:¬(12:Int)<(s.size:Int):=by omega
 have hpos:0<s.size:=by omega
 have hhd:=head_at hpos
 obtain⟨c,hc⟩:=zx (s[0]'hpos)
 rw[hc] at hhd
 have q2:((c.toNat:Int) == 48)=decide (c=48):=u8_eq c 48 (by decide)
 have hx:∀W:World,(Instr.index 9 (.string s) (.int .i64 0)).run Tryz.prog W = .ok (.int .u8 (c.toNat:Int)) W:=fun W=>by
  have:=text_lit W (s:=s) (n:=0) hpos
  rw[hc] at this
  exact this
 by_cases h48:1<s.size∧c=48
 ·obtain rfl:=hno (numP_out (Or.inr (Or.inr ⟨by omega,by rw[hhd,h48.2]⟩)))
  rw[decide_eq_true h48.2] at q2
  have f3:decide ((s.size:Int) > 1)=true:=decide_eq_true (by omega)
  have f4:(1:Int)<(s.size:Int):=by omega
  obtain⟨x,hx2⟩:=zx ((c.toNat:Int))
  simp only[hx2] at hx q2
  clear hno hyes hl hR h0 hs hhd hc h48 hx2 h12
  go_enter Tryz.func100,Tryz.ntmps100
  go_wp2
  first | exact⟨rfl,rfl⟩ | (go_ret; exact⟨rfl,rfl⟩)
 have hin:=fun(n:Nat) (h:Lib.decFrom 0 s.data.toList=some n)=>hyes n (numP_in (fun h=>by rw[h] at hl; simp at hl; omega) (by omega) (fun h=>h48 ⟨by omega,by rw[hhd] at h; exact Option.some.inj h.2⟩) h)
 obtain⟨n,hn⟩:=zx (s.size)
 have HN:=zh hn
 have HL:=zh (hl.trans hn)
 have HC:Hid ((decide ((s.size:Int) > 1)=true→(((c.toNat:Int) == 48)=false))∧(decide ((1:Int)<(s.size:Int))=decide ((s.size:Int) > 1))):=by
  refine⟨fun h=>?_,rfl⟩
  rw[q2,decide_eq_false (fun h2=>h48 ⟨by have:=of_decide_eq_true h; omega,h2⟩)]
 have hn12:n≤12:=by omega
 obtain⟨x,hx2⟩:=zx ((c.toNat:Int))
 rw[hx2] at HC
 simp only[hx2] at hx
 have HX:=zh hx
 have HNO:=zh hno
 have HIN:=zh hin
 clear hno hin
 clear hyes hl hR h0 hs hhd hc h48 hx2 h12 q2 hx hn
 by_cases h1:1<s.size
 ·have f3:decide ((s.size:Int) > 1)=true:=decide_eq_true (by omega)
  have f4:(1:Int)<(s.size:Int):=by omega
  have q2:=HC.out.1 f3
  have hx:=HX.out
  go_enter Tryz.func100,Tryz.ntmps100
  go_wp2_with fail
  clear f1 f2 f3 f4 q0 q2 hx
  go_loopw [3,4] (fun m i wr=>∃k y:Nat,k≤n∧i = .int .i64 (k:Int)∧m = .int .i64 (y:Int)∧y<100000000000000000∧Hid (Lib.decFrom 0 (s.data.toList.take k)=some y)∧wr=w) (fun _ i _=>n-(intOf i).toNat)
  case atStart=>exact⟨0,0,Nat.zero_le _,rfl,rfl,by omega,rfl,rfl⟩
  case round=>
   obtain⟨k,y,hk,rfl,rfl,hy,HY,rfl⟩:=hrel
   by_cases hlt:k<n
   ·have hks:k<s.size:=by rw[HN.out]; exact hlt
    have g0:decide ((k:Int)<(s.size:Int))=true:=decide_eq_true (by omega)
    have g1:∀W:World,(Instr.index 9 (.string s) (.int .i64 (k:Int))).run Tryz.prog W = .ok (.int .u8 ((s[k]'hks).toNat:Int)) W:=fun W=>text_lit W hks
    have hat:=at_data s k hks
    obtain⟨b,hb⟩:=zx (s[k]'hks)
    rw[hb] at g1 hat
    by_cases hd:48≤b.toNat∧b.toNat≤57
    ·have hv:Lib.digitVal b=some (b.toNat-48):=if_pos hd
     have hst:=Lib.decFrom_take _ _ _ _ _ _ HY.out hat hv
     have hst2:=Lib.decFrom_take_lt hst (by omega)
     have HST:=zh hst
     obtain⟨d,hdd⟩:=zx (b.toNat)
     rw[hdd] at g1 hd HST hst2
     have e1:decide ((d:Int)<48)=false:=decide_eq_false (by omega)
     have e2:decide ((d:Int) > 57)=false:=decide_eq_false (by omega)
     have e3:IntKind.u8.wrap ((d:Int)-48)=(d:Int)-48:=IntWalk.u8_in _ (by omega)
     have e4:IntKind.i64.wrap ((y:Int)*10)=(y:Int)*10:=IntWalk.i64_in _ (by omega)
     have e5:IntKind.i64.wrap ((d:Int)-48)=(d:Int)-48:=IntWalk.i64_in _ (by omega)
     have e6:IntKind.i64.wrap ((y:Int)*10+((d:Int)-48))=(y:Int)*10+((d:Int)-48):=IntWalk.i64_in _ (by omega)
     clear hst hat hv hb hdd
     go_wp2
     go_roundw
     case rel=>exact⟨k+1,y*10+(d-48),by omega,by go_num,by go_num,by omega,HST,by first | rfl | trivial⟩
     case measure=>simp[intOf]; omega
    ·have hv:Lib.digitVal b=none:=if_neg hd
     obtain rfl:=HNO.out (numP_byte hv (List.mem_of_getElem? hat))
     obtain⟨d,hdd⟩:=zx (b.toNat)
     rw[hdd] at g1 hd
     by_cases hd1:d<48
     ·have e1:decide ((d:Int)<48)=true:=decide_eq_true (by omega)
      clear hat hv hb hdd hd
      go_wp2
      first | exact⟨rfl,rfl⟩ | (go_ret; exact⟨rfl,rfl⟩)
     ·have e1:decide ((d:Int)<48)=false:=decide_eq_false (by omega)
      have e2:decide ((d:Int) > 57)=true:=decide_eq_true (by omega)
      clear hat hv hb hdd hd
      go_wp2
      first | exact⟨rfl,rfl⟩ | (go_ret; exact⟨rfl,rfl⟩)
   ·have hks:¬k<s.size:=by rw[HN.out]; exact hlt
    have g0:decide ((k:Int)<(s.size:Int))=false:=decide_eq_false (by omega)
    have htk:s.data.toList.take k=s.data.toList:=List.take_of_length_le (by rw[HL.out]; omega)
    have hy2:=HY.out
    rw[htk] at hy2
    obtain rfl:=HIN.out y hy2
    clear htk hy2
    go_wp2
    first | exact⟨rfl,rfl⟩ | (go_ret; exact⟨rfl,rfl⟩)
 ·have f3:decide ((s.size:Int) > 1)=false:=decide_eq_false (by omega)
  have f4:¬(1:Int)<(s.size:Int):=by omega
  go_enter Tryz.func100,Tryz.ntmps100
  go_wp2_with fail
  clear f1 f2 f3 f4 q0
  go_loopw [3,4] (fun m i wr=>∃k y:Nat,k≤n∧i = .int .i64 (k:Int)∧m = .int .i64 (y:Int)∧y<100000000000000000∧Hid (Lib.decFrom 0 (s.data.toList.take k)=some y)∧wr=w) (fun _ i _=>n-(intOf i).toNat)
  case atStart=>exact⟨0,0,Nat.zero_le _,rfl,rfl,by omega,rfl,rfl⟩
  case round=>
   obtain⟨k,y,hk,rfl,rfl,hy,HY,rfl⟩:=hrel
   by_cases hlt:k<n
   ·have hks:k<s.size:=by rw[HN.out]; exact hlt
    have g0:decide ((k:Int)<(s.size:Int))=true:=decide_eq_true (by omega)
    have g1:∀W:World,(Instr.index 9 (.string s) (.int .i64 (k:Int))).run Tryz.prog W = .ok (.int .u8 ((s[k]'hks).toNat:Int)) W:=fun W=>text_lit W hks
    have hat:=at_data s k hks
    obtain⟨b,hb⟩:=zx (s[k]'hks)
    rw[hb] at g1 hat
    by_cases hd:48≤b.toNat∧b.toNat≤57
    ·have hv:Lib.digitVal b=some (b.toNat-48):=if_pos hd
     have hst:=Lib.decFrom_take _ _ _ _ _ _ HY.out hat hv
     have hst2:=Lib.decFrom_take_lt hst (by omega)
     have HST:=zh hst
     obtain⟨d,hdd⟩:=zx (b.toNat)
     rw[hdd] at g1 hd HST hst2
     have e1:decide ((d:Int)<48)=false:=decide_eq_false (by omega)
     have e2:decide ((d:Int) > 57)=false:=decide_eq_false (by omega)
     have e3:IntKind.u8.wrap ((d:Int)-48)=(d:Int)-48:=IntWalk.u8_in _ (by omega)
     have e4:IntKind.i64.wrap ((y:Int)*10)=(y:Int)*10:=IntWalk.i64_in _ (by omega)
     have e5:IntKind.i64.wrap ((d:Int)-48)=(d:Int)-48:=IntWalk.i64_in _ (by omega)
     have e6:IntKind.i64.wrap ((y:Int)*10+((d:Int)-48))=(y:Int)*10+((d:Int)-48):=IntWalk.i64_in _ (by omega)
     clear hst hat hv hb hdd
     go_wp2
     go_roundw
     case rel=>exact⟨k+1,y*10+(d-48),by omega,by go_num,by go_num,by omega,HST,by first | rfl | trivial⟩
     case measure=>simp[intOf]; omega
    ·have hv:Lib.digitVal b=none:=if_neg hd
     obtain rfl:=HNO.out (numP_byte hv (List.mem_of_getElem? hat))
     obtain⟨d,hdd⟩:=zx (b.toNat)
     rw[hdd] at g1 hd
     by_cases hd1:d<48
     ·have e1:decide ((d:Int)<48)=true:=decide_eq_true (by omega)
      clear hat hv hb hdd hd
      go_wp2
      first | exact⟨rfl,rfl⟩ | (go_ret; exact⟨rfl,rfl⟩)
     ·have e1:decide ((d:Int)<48)=false:=decide_eq_false (by omega)
      have e2:decide ((d:Int) > 57)=true:=decide_eq_true (by omega)
      clear hat hv hb hdd hd
      go_wp2
      first | exact⟨rfl,rfl⟩ | (go_ret; exact⟨rfl,rfl⟩)
   ·have hks:¬k<s.size:=by rw[HN.out]; exact hlt
    have g0:decide ((k:Int)<(s.size:Int))=false:=decide_eq_false (by omega)
    have htk:s.data.toList.take k=s.data.toList:=List.take_of_length_le (by rw[HL.out]; omega)
    have hy2:=HY.out
    rw[htk] at hy2
    obtain rfl:=HIN.out y hy2
    clear htk hy2
    go_wp2
    first | exact⟨rfl,rfl⟩ | (go_ret; exact⟨rfl,rfl⟩)
theorem rnums_any (w:World) (v:Value) (ws:List (List UInt8)) (hv:Texts w v (ws.map ofL)) (hs:∀x∈ws,x.length≤4000000000) (hl:ws.length≤4000001):Calls Tryz.prog 49 #[v] w (q24z (numsP ws) w):=by
 obtain⟨ad,n,cap,rfl,HN,hn2,HF⟩:=texts_facts hv
 have hN:n=ws.length:=by have:=HN.out; rw[List.length_map] at this; exact this
 have hno:=fun(h:numsP ws=none) (w':World) (hb:Below w.heap.size w w')=>nums_no h hb
 have hyes:=fun(l:List Nat) (h:numsP ws=some l) (w':World) (v:Value) (hv:OwnN w.heap.size w' v l) (hb:Below w.heap.size w w')=>nums_yes h hv hb
 have hread:=fun(W:World) (x:List UInt8) (hx:x∈ws)=>rnum31_any W (ofL x) (by rw[ofL_size]; exact hs x hx)
 simp only[ofL_data] at hread
 obtain⟨Q,hQ⟩:=zx (q24z (numsP ws) w)
 rw[hQ] at hno hyes ⊢
 have HNN:=zh hN
 have HL:=zh hl
 have HNO:=zh hno
 have HYES:=zh hyes
 have HREAD:=zh hread
 clear hno hyes hread
 clear hQ hv hs hl hN
 go_enter Tryz.func49,Tryz.ntmps49
 go_wp2_with fail
 go_loopw [4,5,6] (fun out i _ wr=>∃(k:Nat) (l:List Nat),k≤n∧i = .int .i64 k∧Hid (numsP (ws.take k)=some l)∧Hid (l.length=k)∧Hid (OwnN w.heap.size wr out l)∧Hid (Below w.heap.size w wr)) (fun _ i _ _=>n-(intOf i).toNat)
 case atStart=>exact⟨0,[],Nat.zero_le _,rfl,rfl,rfl,OwnR.void _ _,Below.refl _ _⟩
 case round=>
  obtain⟨k,l,hk,rfl,HP,HLn,HO,HB⟩:=hrel
  by_cases hlt:k<n
  ·obtain⟨b,o,x,rfl,hb,hx,hc⟩:=HF.out k hlt
   rw[List.getElem?_map] at hx
   obtain⟨y,hy,rfl⟩:=Option.map_eq_some_iff.1 hx
   have c0:=(HB.out.cell (p:=⟨b,o+k,none⟩) hb).trans hc
   have hmem:=List.mem_of_getElem? hy
   have hrd:=fun W:World=>HREAD.out W y hmem
   have htk:=take_step hy
   obtain⟨X,hX⟩:=zx (ofL y)
   rw[hX] at c0 hrd
   cases hnum:numP y with
   | none=>
     have HX:=zh (HNO.out (q46z hmem hnum))
     rw[numR_none hnum] at hrd
     have HRD:=zh hrd
     clear hrd
     clear hx hc hb hy hmem hX hnum htk
     go_wp2_with fail
     refine(HRD.out _).mono ?_
     rintro e w1 ⟨rfl,rfl⟩
     go_wp2
     first | exact HX.out _ HB.out | (go_ret2; exact HX.out _ HB.out)
   | some m=>
     have HS:Hid (numsP (ws.take (k+1))=some (l ++ [m])):=by
      rw[htk]
      exact q38z HP.out hnum
     rw[numR_some hnum] at hrd
     have e1:decide ((m:Int)<0)=false:=decide_eq_false (by omega)
     have HRD:=zh hrd
     clear hrd
     clear hx hc hb hy hmem hX hnum htk
     go_wp2_with fail
     refine(HRD.out _).mono ?_
     rintro e w1 ⟨rfl,rfl⟩
     have HO1:Hid (OwnN w.heap.size w1 _ l):=HO
     have hll:l.length≤4000001:=by have:=HLn.out; have:=HNN.out; have:=HL.out; omega
     obtain⟨ia2,ib2,ic2,id2,ie2⟩:=info_parts infoInt
     have hrow2:=HO1.out
     unfold OwnR at hrow2
     have HRow2:=zh hrow2
     clear hrow2
     have HIb2:=zh ib2
     have HIc2:=zh ic2
     have HId2:=zh id2
     have HIe2:=zh ie2
     clear ib2 ic2 id2 ie2
     go_wp2_with (at_builtin; refine wpList_append_lies _ rfl _ _ _ rfl w.heap.size 3 ia2 _ 1 8 Tryz.underlying79 HIb2.out HIc2.out HId2.out HIe2.out rfl (by decide) _ _ _ rfl (HRow2.out.alloc _) ⟨w1.heap.size,0,none⟩ 1 1 [.int .i64 (m:Int)] rfl rfl (World.news_of_block (cs:=#[.int .i64 (m:Int)]) (t:=3) (fr:=(0,0)) (heapNew w1 _)) (by simp[Value.oneCell']) (by omega) ?c1 ?c2 ?c3 (w1.heap.size+1) (by simp) ?_)
     case c1=>unfold maxLen; omega
     case c2=>omega
     case c3=>have:=HB.out.size; first | (simp; done) | (simp; omega)
     intro g2 cap2 w2 hown2 hgrow2 hat2 hlt2
     have HO2:=zh (OwnR.snoc (f:=numC) (x:=m) hown2 rfl rfl)
     have HB2:Hid (Below w.heap.size _ w2):=Below.grown (bl1 HB.out _) hgrow2 (bl1 HB.out _).size (fun q hq=>(HRow2.out.lt q hq).1)
     clear hown2 hgrow2 hat2 hlt2 HRow2
     have HLn2:Hid ((l ++ [m]).length=k+1):=by show _=_; rw[List.length_append,HLn.out]; rfl
     clear c0
     go_wp2
     go_roundw
     case rel=>exact⟨k+1,l ++ [m],by omega,by go_num,HS,HLn2,HO2,HB2⟩
     case measure=>simp[intOf]; omega
  ·have htk:ws.take k=ws:=List.take_of_length_le (by have:=HNN.out; omega)
   have hp:=HP.out
   rw[htk] at hp
   have HX:=zh (HYES.out l hp _ _ HO.out HB.out)
   obtain⟨oad,ocap,rfl⟩:=HO.out.form
   clear hp htk
   go_wp2
   first | exact HX.out | (go_ret2; exact HX.out)
end
