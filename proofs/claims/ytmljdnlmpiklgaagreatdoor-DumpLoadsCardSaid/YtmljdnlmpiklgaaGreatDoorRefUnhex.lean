import Derived.Test.YtmljdnlmpiklgaaGreatDoorRefCut31
import Derived.Test.YtmljdnlmpiklgaaGreatDoorRefE
namespace Go.Proofs.YtmljdnlmpiklgaaGreatDoor
open Go Go.RowKit Txt Sp
def HexN (l:List UInt8) (i j y:Nat):Prop:=(j=0∧y=0)∨(j=1∧∃a,l[i]? = some a∧hexV a=some y)∨(j=2∧∃a b x z,l[i]? = some a∧l[i+1]? = some b∧hexV a=some x∧hexV b=some z∧y=16*x+z)
theorem HexN.step {l:List UInt8} {i j y z:Nat} {b:UInt8} (h:HexN l i j y) (hj:j<2) (hb:l[i+j]? = some b) (hz:hexV b=some z):HexN l i (j+1) (16*y+z)∧16*y+z<256:=by
 have hz16:=hexV_lt hz
 rcases h with ⟨rfl,rfl⟩ | ⟨rfl,a,ha,hy⟩ | ⟨rfl,_⟩
 ·exact⟨Or.inr (Or.inl ⟨rfl,b,hb,by rw[hz]; simp⟩),by omega⟩
 ·have:=hexV_lt hy
  exact⟨Or.inr (Or.inr ⟨rfl,a,b,y,z,ha,hb,hy,hz,rfl⟩),by omega⟩
 ·omega
theorem HexN.two {l:List UInt8} {i y:Nat} (h:HexN l i 2 y):∃a b x z,l[i]? = some a∧l[i+1]? = some b∧hexV a=some x∧hexV b=some z∧y=16*x+z:=by
 rcases h with ⟨h,_⟩ | ⟨h,_⟩ | ⟨_,h⟩
 ·cases h
 ·cases h
 ·exact h
section
set_option maxHeartbeats 8000000
set_option maxRecDepth 20000 in
theorem runhex_any (w:World) (s:ByteArray) (hs:s.size≤4000000):Calls Tryz.prog 56 #[.string s] w (q25z (q4z s.data.toList) w):=by
 have hl:s.data.toList.length=s.size:=(Lib.size_eq s).symm
 have hno:=fun(h:q4z s.data.toList=none) (w':World) (hb:Below w.heap.size w w')=>by_no h hb
 have hyes:=fun(l:List UInt8) (h:q4z s.data.toList=some l) (w':World) (hb:Below w.heap.size w w')=>by_yes h hb
 obtain⟨Q,hQ⟩:=zx (q25z (q4z s.data.toList) w)
 rw[hQ] at hno hyes ⊢
 clear hQ
 by_cases hodd:s.size % 2=1
 ·have HN:=zh (hno (unhexP_odd _ (by omega)))
  have f1:((s.size:Int) % 2 != 0)=true:=bne_iff_ne.2 (by omega)
  have f2:((s.size:Int).tmod 2 != 0)=true:=bne_iff_ne.2 (by rw[Int.tmod_eq_emod_of_nonneg (by omega)]; omega)
  have f3:((s.size:Int) % 2 == 0)=false:=beq_eq_false_iff_ne.2 (by omega)
  clear hno hyes hl hs hodd
  go_enter Tryz.func56,Tryz.ntmps56
  go_wp2
  first | exact HN.out _ (Below.refl _ _) | (go_ret2; exact HN.out _ (Below.refl _ _))
 obtain⟨n,hn⟩:∃n,s.size=2*n:=⟨s.size / 2,by omega⟩
 have f1:((s.size:Int) % 2 != 0)=false:=bne_eq_false_iff_eq.2 (by omega)
 have f2:((s.size:Int).tmod 2 != 0)=false:=bne_eq_false_iff_eq.2 (by rw[Int.tmod_eq_emod_of_nonneg (by omega)]; omega)
 have f3:((s.size:Int) % 2 == 0)=true:=beq_iff_eq.2 (by omega)
 have HN:=zh hn
 have HL:=zh hl
 have HS:=zh hs
 have hat:∀(i:Nat) (h:i<s.size) (W:World),(Instr.index 9 (.string s) (.int .i64 (i:Int))).run Tryz.prog W = .ok (.int .u8 (s[i].toNat:Int)) W:=fun i h W=>text_lit W h
 have HNO:=zh hno
 have HYES:=zh hyes
 have HAT:=zh hat
 clear hno hyes hat
 clear hn hl hs hodd
 go_enter Tryz.func56,Tryz.ntmps56
 go_wp2_with fail
 clear f1 f2 f3
 go_loopw [4,5,6,7,25,44] (fun v i _ _ _ _ wr=>∃(k:Nat) (l:List UInt8),k≤n∧i = .int .i64 ((2*k:Nat):Int)∧Hid (q4z (s.data.toList.take (2*k))=some l)∧Hid (Bytes w.heap.size wr v l)∧Hid (Below w.heap.size w wr)) (fun _ i _ _ _ _ _=>2*n-(intOf i).toNat)
 case atStart=>exact⟨0,[],Nat.zero_le _,rfl,rfl,OwnR.void _ _,Below.refl _ _⟩
 case round=>
  obtain⟨k,l,hk,rfl,HP,HO,HB⟩:=hrel
  obtain⟨i,hi⟩:=zx (2*k)
  obtain⟨i2,hi2⟩:=zx (i+2)
  rw[hi] at HP ⊢
  by_cases hlt:k<n
  ·have g1:i<s.size:=by have:=HN.out; omega
   have g2:i2≤s.size:=by have:=HN.out; omega
   have hsz:=HS.out
   have q1:decide ((i:Int)<(s.size:Int))=true:=decide_eq_true (by omega)
   have q2:(i:Int)<(s.size:Int):=by omega
   have e1:IntKind.i64.wrap ((i:Int)+2)=(i2:Int):=by rw[IntWalk.i64_in _ (by omega)]; omega
   go_wp2_with fail
   clear q1 q2
   go_loopw [6,7,25,44] (fun m q _ _ wr'=>∃j y:Nat,j≤2∧q = .int .i64 ((i+j:Nat):Int)∧m = .int .i64 (y:Int)∧y<256∧Hid (HexN s.data.toList i j y)∧wr' = wr) (fun _ q _ _ _=>i+2-(intOf q).toNat)
   case atStart=>exact⟨0,0,Nat.zero_le _,rfl,rfl,by omega,Or.inl ⟨rfl,rfl⟩,rfl⟩
   case round=>
    obtain⟨j,y,hj,rfl,rfl,hy,HY,rfl⟩:=hrel
    by_cases hj2:j<2
    ·have g3:i+j<s.size:=by omega
     have q1:decide (((i+j:Nat):Int)<(i2:Int))=true:=decide_eq_true (by omega)
     have x1:=HAT.out (i+j) g3
     have t1:=at_data s (i+j) g3
     obtain⟨b,hb⟩:=zx (s[i+j]'g3)
     rw[hb] at x1 t1
     have m1:=List.mem_of_getElem? t1
     obtain⟨p,hp⟩:=zx (i+j)
     rw[hp] at x1 q1 ⊢
     have hvb:hexV b=if 48≤b.toNat∧b.toNat≤57 then some (b.toNat-48) else if 97≤b.toNat∧b.toNat≤102 then some (b.toNat-87) else none:=rfl
     obtain⟨d,hd⟩:=zx (b.toNat)
     rw[hd] at x1 hvb
     have hp1:p+1=i+(j+1):=by omega
     by_cases h1:48≤d∧d≤57
     ·rw[if_pos h1] at hvb
      have hst:=HY.out.step hj2 (by rw[hp] at t1 ⊢; exact t1) hvb
      have HST:=zh hst.1
      have hst2:=hst.2
      have c1:decide ((d:Int)≥48)=true:=decide_eq_true (by omega)
      have c2:decide ((d:Int)≤57)=true:=decide_eq_true (by omega)
      have e3:IntKind.u8.wrap ((d:Int)-48)=(d:Int)-48:=IntWalk.u8_in _ (by omega)
      have e4:IntKind.i64.wrap (16*(y:Int))=16*(y:Int):=IntWalk.i64_in _ (by omega)
      have e5:IntKind.i64.wrap ((d:Int)-48)=(d:Int)-48:=IntWalk.i64_in _ (by omega)
      have e6:IntKind.i64.wrap (16*(y:Int)+((d:Int)-48))=16*(y:Int)+((d:Int)-48):=IntWalk.i64_in _ (by omega)
      clear hst t1 m1 hvb hb hd
      go_wp2
      go_roundw
      case rel=>exact⟨j+1,16*y+(d-48),by omega,by go_num,by go_num,hst2,HST,by first | rfl | trivial⟩
      case measure=>simp[intOf]; omega
     rw[if_neg h1] at hvb
     by_cases h2:97≤d∧d≤102
     ·rw[if_pos h2] at hvb
      have hst:=HY.out.step hj2 (by rw[hp] at t1 ⊢; exact t1) hvb
      have HST:=zh hst.1
      have hst2:=hst.2
      have c1:decide ((d:Int)≥48)=true:=decide_eq_true (by omega)
      have c2:decide ((d:Int)≤57)=false:=decide_eq_false (by omega)
      have c3:decide ((d:Int)≥97)=true:=decide_eq_true (by omega)
      have c4:decide ((d:Int)≤102)=true:=decide_eq_true (by omega)
      have e3:IntKind.u8.wrap ((d:Int)-97)=(d:Int)-97:=IntWalk.u8_in _ (by omega)
      have e4:IntKind.i64.wrap (16*(y:Int))=16*(y:Int):=IntWalk.i64_in _ (by omega)
      have e5:IntKind.i64.wrap ((d:Int)-97)=(d:Int)-97:=IntWalk.i64_in _ (by omega)
      have e6:IntKind.i64.wrap (16*(y:Int)+((d:Int)-97))=16*(y:Int)+((d:Int)-97):=IntWalk.i64_in _ (by omega)
      have e7:IntKind.i64.wrap (16*(y:Int)+((d:Int)-97)+10)=16*(y:Int)+((d:Int)-97)+10:=IntWalk.i64_in _ (by omega)
      clear hst t1 m1 hvb hb hd
      go_wp2
      go_roundw
      case rel=>exact⟨j+1,16*y+(d-87),by omega,by go_num,by go_num,hst2,HST,by first | rfl | trivial⟩
      case measure=>simp[intOf]; omega
     rw[if_neg h2] at hvb
     have HX:=zh (HNO.out (q43z hvb _ m1))
     clear t1 m1 hvb hb hd
     by_cases h3:d<48
     ·have c1:decide ((d:Int)≥48)=false:=decide_eq_false (by omega)
      have c3:decide ((d:Int)≥97)=false:=decide_eq_false (by omega)
      go_wp2
      first | exact HX.out _ HB.out | (go_ret2; exact HX.out _ HB.out)
     by_cases h4:d<97
     ·have c1:decide ((d:Int)≥48)=true:=decide_eq_true (by omega)
      have c2:decide ((d:Int)≤57)=false:=decide_eq_false (by omega)
      have c3:decide ((d:Int)≥97)=false:=decide_eq_false (by omega)
      go_wp2
      first | exact HX.out _ HB.out | (go_ret2; exact HX.out _ HB.out)
     ·have c1:decide ((d:Int)≥48)=true:=decide_eq_true (by omega)
      have c2:decide ((d:Int)≤57)=false:=decide_eq_false (by omega)
      have c3:decide ((d:Int)≥97)=true:=decide_eq_true (by omega)
      have c4:decide ((d:Int)≤102)=false:=decide_eq_false (by omega)
      go_wp2
      first | exact HX.out _ HB.out | (go_ret2; exact HX.out _ HB.out)
    ·obtain rfl:j=2:=by omega
     have q1:decide (((i+2:Nat):Int)<(i2:Int))=false:=decide_eq_false (by omega)
     obtain⟨a,b,x,z,ta,tb,va,vb,he⟩:=HY.out.two
     have HP2:Hid (q4z (s.data.toList.take (2*(k+1)))=some (l ++ [UInt8.ofNat y])):=by
      show _=_
      rw[show 2*(k+1)=i+2 by omega,take_two ta tb,unhexP_snoc va vb _ _ HP.out,he]
     have hyy:(y:Int)=((UInt8.ofNat y).toNat:Int):=by rw[UInt8.toNat_ofNat',Nat.mod_eq_of_lt (by omega)]
     have e3:IntKind.u8.wrap (y:Int)=(y:Int):=IntWalk.u8_in _ (by omega)
     have hll:l.length≤4000000:=by
      have:=q51z _ _ HP.out
      rw[List.length_take] at this
      omega
     clear ta tb va vb he HY
     rw[hyy] at e3 ⊢
     obtain⟨c,hc⟩:=zx (UInt8.ofNat y)
     rw[hc] at e3 HP2 ⊢
     clear hc hyy
     obtain⟨ia2,ib2,ic2,id2,ie2⟩:=info_parts infoU8
     have hrow2:=HO.out
     unfold OwnR at hrow2
     have HRow2:=zh hrow2
     clear hrow2
     have HIb2:=zh ib2
     have HIc2:=zh ic2
     have HId2:=zh id2
     have HIe2:=zh ie2
     clear ib2 ic2 id2 ie2
     go_wp2_with (at_builtin; refine wpList_append_lies _ rfl _ _ _ rfl w.heap.size 5 ia2 _ 1 1 Tryz.underlying36 HIb2.out HIc2.out HId2.out HIe2.out rfl (by decide) _ _ _ rfl (HRow2.out.alloc _) ⟨wr.heap.size,0,none⟩ 1 1 [.int .u8 (c.toNat:Int)] rfl rfl (World.news_of_block (cs:=#[.int .u8 (c.toNat:Int)]) (t:=5) (fr:=(0,0)) (heapNew wr _)) (by simp[Value.oneCell']) (by omega) ?c1 ?c2 ?c3 (wr.heap.size+1) (by simp) ?_)
     case c1=>unfold maxLen; omega
     case c2=>omega
     case c3=>have:=HB.out.size; first | (simp; done) | (simp; omega)
     intro g2 cap2 w2 hown2 hgrow2 hat2 hlt2
     have HO2:=zh (OwnR.snoc (f:=byC) (x:=c) hown2 rfl rfl)
     have HB2:Hid (Below w.heap.size _ w2):=Below.grown (bl1 HB.out _) hgrow2 (bl1 HB.out _).size (fun q hq=>(HRow2.out.lt q hq).1)
     clear hown2 hgrow2 hat2 hlt2 HRow2
     go_wp2
     go_roundw
     case rel=>exact⟨k+1,_,by omega,by go_num,HP2,HO2,HB2⟩
     case measure=>simp[intOf]; omega
  ·have hkn:k=n:=by omega
   have g1:¬i<s.size:=by have:=HN.out; omega
   have q1:decide ((i:Int)<(s.size:Int))=false:=decide_eq_false (by omega)
   have htk:s.data.toList.take i=s.data.toList:=List.take_of_length_le (by rw[HL.out]; omega)
   have hp:=HP.out
   rw[htk] at hp
   have HX:=zh (HYES.out l hp)
   have hcv:=bytes_of HO.out
   clear htk hp
   go_wp2
   first | exact HX.out _ HB.out | (go_ret2; exact HX.out _ HB.out)
end
