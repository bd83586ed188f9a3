import Derived.Test.YtmljdnlmpiklgaaGreatDoorLoadRead
namespace Go.Proofs.YtmljdnlmpiklgaaGreatDoor
open Go Go.RowKit Txt Sp
theorem unhexP_odd:∀l:List UInt8,l.length % 2=1→q4z l=none
 | [],h=>by simp at h
 | [_],_=>rfl
 | a :: b :: r,h=>by
   unfold q4z
   rw[unhexP_odd r (by simp only[List.length_cons] at h; omega)]
   cases hexV a <;> cases hexV b <;> rfl
theorem unhexP_snoc {a b:UInt8} {x y:Nat} (ha:hexV a=some x) (hb:hexV b=some y):∀(l r:List UInt8),q4z l=some r→q4z (l ++ [a,b])=some (r ++ [UInt8.ofNat (16*x+y)])
 | [],r,h=>by
   cases h
   show q4z [a,b]=_
   simp only[q4z,ha,hb]
   rfl
 | [_],r,h=>by cases h
 | p :: q :: l,r,h=>by
   unfold q4z at h
   cases hp:hexV p with
   | none=>rw[hp] at h; cases h
   | some u=>
     cases hq:hexV q with
     | none=>rw[hp,hq] at h; cases h
     | some v=>
       cases hl:q4z l with
       | none=>rw[hp,hq,hl] at h; cases h
       | some t=>
         rw[hp,hq,hl] at h
         cases h
         have ih:=unhexP_snoc ha hb l t hl
         show q4z (p :: q :: (l ++ [a,b]))=_
         unfold q4z
         rw[hp,hq,ih]
         rfl
theorem q51z:∀(l r:List UInt8),q4z l=some r→l.length=2*r.length
 | [],r,h=>by cases h; rfl
 | [_],r,h=>by cases h
 | p :: q :: l,r,h=>by
   unfold q4z at h
   cases hp:hexV p with
   | none=>rw[hp] at h; cases h
   | some u=>
     cases hq:hexV q with
     | none=>rw[hp,hq] at h; cases h
     | some v=>
       cases hl:q4z l with
       | none=>rw[hp,hq,hl] at h; cases h
       | some t=>
         rw[hp,hq,hl] at h
         cases h
         have:=q51z l t hl
         simp only[List.length_cons]
         omega
theorem take_two {l:List UInt8} {i:Nat} {a b:UInt8} (ha:l[i]? = some a) (hb:l[i+1]? = some b):l.take (i+2)=l.take i ++ [a,b]:=by
 rw[show i+2=i+1+1 by omega,take_step hb,take_step ha,List.append_assoc]
 rfl
def q25z (o:Option (List UInt8)) (w:World) (e:Ending) (w':World):Prop:=
 e = .returned (.tuple #[.string (ofL (o.getD [])),.bool o.isSome])∧Below w.heap.size w w'
theorem by_no {o:Option (List UInt8)} {w w':World} (h:o=none) (hb:Below w.heap.size w w'):q25z o w (.returned (.tuple #[.string ⟨#[]⟩,.bool false])) w':=by
 subst h
 exact⟨rfl,hb⟩
theorem by_yes {o:Option (List UInt8)} {l:List UInt8} {w w':World} (h:o=some l) (hb:Below w.heap.size w w'):q25z o w (.returned (.tuple #[.string (ofL l),.bool true])) w':=by
 subst h
 exact⟨rfl,hb⟩
theorem hex_or (x y:Nat) (hx:x<16) (hy:y<16):bits .or .i64 ((x:Int)*16) (y:Int)=((16*x+y:Nat):Int):=by
 have e:(x:Int)*16=((2 ^ 4*x:Nat):Int):=by omega
 rw[e,i64_or _ _ (by omega) (by omega),or_low 4 _ _ (by omega)]
section
set_option maxHeartbeats 8000000
set_option maxRecDepth 20000 in
theorem dbytes_any (w:World) (s:ByteArray) (hs:s.size≤4000000):Calls Tryz.prog 46 #[.string s] w (q25z (q4z s.data.toList) w):=by
 have hl:s.data.toList.length=s.size:=(Lib.size_eq s).symm
 have hno:=fun(h:q4z s.data.toList=none) (w':World) (hb:Below w.heap.size w w')=>by_no h hb
 have hyes:=fun(l:List UInt8) (h:q4z s.data.toList=some l) (w':World) (hb:Below w.heap.size w w')=>by_yes h hb
 obtain⟨Q,hQ⟩:=zx (q25z (q4z s.data.toList) w)
 rw[hQ] at hno hyes ⊢
 clear hQ
 by_cases hodd:s.size % 2=1
 ·have HN:=zh (hno (unhexP_odd _ (by omega)))
  have f1:((s.size:Int) % 2 == 1)=true:=beq_iff_eq.2 (by omega)
  have f2:((s.size:Int).tmod 2 == 1)=true:=beq_iff_eq.2 (by rw[Int.tmod_eq_emod_of_nonneg (by omega)]; omega)
  clear hno hyes hl hs hodd
  go_enter Tryz.func46,Tryz.ntmps46
  go_wp2
  first | exact HN.out _ (Below.refl _ _) | (go_ret2; exact HN.out _ (Below.refl _ _))
 obtain⟨n,hn⟩:∃n,s.size=2*n:=⟨s.size / 2,by omega⟩
 have f1:((s.size:Int) % 2 == 1)=false:=beq_eq_false_iff_ne.2 (by omega)
 have f2:((s.size:Int).tmod 2 == 1)=false:=beq_eq_false_iff_ne.2 (by rw[Int.tmod_eq_emod_of_nonneg (by omega)]; omega)
 obtain⟨W0,hW0⟩:=zx (w.alloc (.cells #[.pointer none,.slice none 0 0] 50))
 have hz0:W0.heap[w.heap.size]? = some (.cells #[.pointer none,.slice none 0 0] 50 (0,0)):=by rw[←hW0]; exact heapNew w _
 have HB0:Hid (Below w.heap.size w W0):=by rw[←hW0]; exact bl2 _
 have hs0:W0.heap.size=w.heap.size+1:=by rw[←hW0]; simp
 have HBd:Hid (Bld (w.heap.size+1) w.heap.size [] W0):=Bld.fresh (by omega) hz0
 have HS0:Hid (w.heap.size+1≤W0.heap.size):=by rw[hs0]; exact Nat.le_refl _
 have HN:=zh hn
 have HL:=zh hl
 have HS:=zh hs
 have hat:∀(i:Nat) (h:i<s.size) (W:World),(Instr.index 9 (.string s) (.int .i64 (i:Int))).run Tryz.prog W = .ok (.int .u8 (s[i].toNat:Int)) W:=fun i h W=>text_lit W h
 have HNO:=zh hno
 have HYES:=zh hyes
 have HAT:=zh hat
 clear hno hyes hat
 clear hn hl hs hz0 hs0 hodd
 go_enter Tryz.func46,Tryz.ntmps46
 go_wp2_with fail
 clear hW0
 go_loopw [5,6,7] (fun i _ _ wr=>∃(k:Nat) (l:List UInt8),k≤n∧i = .int .i64 ((2*k:Nat):Int)∧Hid (q4z (s.data.toList.take (2*k))=some l)∧Hid (Bld (w.heap.size+1) w.heap.size l wr)∧Hid (Below w.heap.size w wr)∧Hid (w.heap.size+1≤wr.heap.size)) (fun i _ _ _=>2*n-(intOf i).toNat)
 case atStart=>exact⟨0,[],Nat.zero_le _,rfl,rfl,HBd,HB0,HS0⟩
 case round=>
  obtain⟨k,l,hk,rfl,HP,HBl,HB,HSz⟩:=hrel
  clear HBd HB0 HS0
  obtain⟨i,hi⟩:=zx (2*k)
  obtain⟨i1,hi1⟩:=zx (i+1)
  rw[hi] at HP ⊢
  by_cases hlt:k<n
  ·have g1:i<s.size:=by have:=HN.out; omega
   have g2:i1<s.size:=by have:=HN.out; omega
   have q1:decide ((i:Int)<(s.size:Int))=true:=decide_eq_true (by omega)
   have q2:(i:Int)<(s.size:Int):=by omega
   have e1:IntKind.i64.wrap ((i:Int)+1)=(i1:Int):=by rw[IntWalk.i64_in _ (by have:=HS.out; omega)]; omega
   have x1:=HAT.out i g1
   have x2:=HAT.out i1 g2
   have t1:=at_data s i g1
   have t2:=at_data s i1 g2
   obtain⟨a,ha⟩:=zx (s[i]'g1)
   obtain⟨b,hb⟩:=zx (s[i1]'g2)
   rw[ha] at x1 t1
   rw[hb] at x2 t2
   have y1:=fun W:World=>indexHex_any a W
   have y2:=fun W:World=>indexHex_any b W
   have m1:=List.mem_of_getElem? t1
   have m2:=List.mem_of_getElem? t2
   have hk2:=take_two t1 (by rw[hi1]; exact t2)
   obtain⟨ca,hca⟩:∃c:Int,hexI a=c:=⟨_,rfl⟩
   obtain⟨cb,hcb⟩:∃c:Int,hexI b=c:=⟨_,rfl⟩
   obtain⟨u,hu⟩:∃u:Int,(a.toNat:Int)=u:=⟨_,rfl⟩
   obtain⟨v,hv⟩:∃u:Int,(b.toNat:Int)=u:=⟨_,rfl⟩
   simp only[hca] at y1
   simp only[hcb] at y2
   simp only[hu] at x1 y1
   simp only[hv] at x2 y2
   have HCA:=zh hca
   have HCB:=zh hcb
   unfold hexT at y1 y2
   have Y1:=zh y1
   have Y2:=zh y2
   have M1:=zh m1
   have M2:=zh m2
   have HK2:=zh hk2
   clear y1 y2 m1 m2 hk2
   clear t1 t2 ha hb hu hv hca hcb
   go_wp2_with fail
   go_cut [6,7] (fun x y wx=>x = .int .i64 ca∧y = .int .i64 cb∧wr.drew=wx)
   case first=>
    go_region_held3 (fun _=>True) (trivial)
     (first
       | (go_at_call_of 89 (Value.int .u8 u); refine(Y1.out _).mono ?_; rintro e w1 ⟨rfl,hw1⟩; subst hw1; simp only)
       | (go_at_call_of 89 (Value.int .u8 v); refine(Y2.out _).mono ?_; rintro e w2 ⟨rfl,hw2⟩; subst hw2; simp only))
    all_goals
     go_wp2
     go_meet
     case rel=>exact⟨rfl,rfl,rfl⟩
   case rest=>
   obtain⟨rfl,rfl,rfl⟩:=hcut
   clear x1 x2 Y1 Y2
   by_cases h3:ca<0
   ·have HX:Hid (∀w',Below w.heap.size w w'→Q (.returned (.tuple #[.string ⟨#[]⟩,.bool false])) w'):=HNO.out (by
     cases hva:hexV a with
     | none=>exact q43z hva _ M1.out
     | some n=>have:=HCA.out; rw[hexI_some hva] at this; omega)
    have q4:decide (ca<0)=true:=decide_eq_true h3
    go_wp2
    first | exact HX.out _ (blD HB.out) | (go_ret2; exact HX.out _ (blD HB.out))
   have q4:decide (ca<0)=false:=decide_eq_false h3
   by_cases h4:cb<0
   ·have HX:Hid (∀w',Below w.heap.size w w'→Q (.returned (.tuple #[.string ⟨#[]⟩,.bool false])) w'):=HNO.out (by
     cases hva:hexV b with
     | none=>exact q43z hva _ M2.out
     | some n=>have:=HCB.out; rw[hexI_some hva] at this; omega)
    have q5:decide (cb<0)=true:=decide_eq_true h4
    go_wp2
    first | exact HX.out _ (blD HB.out) | (go_ret2; exact HX.out _ (blD HB.out))
   have q5:decide (cb<0)=false:=decide_eq_false h4
   obtain⟨x,hx⟩:∃x,hexV a=some x:=by
    cases hva:hexV a with
    | none=>have:=HCA.out; rw[hexI_none hva] at this; omega
    | some n=>exact⟨n,rfl⟩
   obtain⟨y,hy⟩:∃x,hexV b=some x:=by
    cases hva:hexV b with
    | none=>have:=HCB.out; rw[hexI_none hva] at this; omega
    | some n=>exact⟨n,rfl⟩
   have ex:=HCA.out
   have ey:=HCB.out
   rw[hexI_some hx] at ex
   rw[hexI_some hy] at ey
   subst ex ey
   have lx:=hexV_lt hx
   have ly:=hexV_lt hy
   have hll:=q51z _ _ HP.out
   have hst:=unhexP_snoc hx hy _ _ HP.out
   rw[←HK2.out] at hst
   rw[show i+2=2*(k+1) by omega] at hst
   have HST:=zh hst
   have hor:bits .or .i64 (wrap64 ((x:Int)*16)) (y:Int)=((16*x+y:Nat):Int):=by
    rw[show wrap64 ((x:Int)*16)=(x:Int)*16 from IntWalk.wrap64_in _ ⟨by omega,by omega⟩]
    exact hex_or x y lx ly
   have hll2:l.length≤4000000:=by
    rw[List.length_take] at hll
    have:=HL.out
    have:=HS.out
    omega
   obtain⟨z,hz⟩:=zx (16*x+y)
   rw[hz] at hor
   have hzb:z<256:=by omega
   have hzc:((UInt8.ofNat z).toNat:Int)=(z:Int):=by rw[UInt8.toNat_ofNat']; omega
   have hw:=bbyte_any (w.heap.size+1) w.heap.size l (UInt8.ofNat z) wr.drew (HBl.out.below (blD (Below.refl _ _))) (by omega) HSz.out
   rw[hzc] at hw
   rw[hz] at HST
   have HW1:=zh hw
   have hwr:IntKind.u8.wrap (z:Int)=(z:Int):=IntWalk.u8_in _ (by omega)
   clear hst hw hll hx hy hz lx ly
   go_wp2_with fail
   refine HW1.out.mono ?_
   rintro e w2 ⟨rfl,hbd2,hk2⟩
   have HBd2:=zh hbd2
   have HB2:=zh ((blD HB.out).trans (hk2.below (B:=w.heap.size) (Nat.le_refl _) (by omega)))
   have HSz2:Hid (w.heap.size+1≤w2.heap.size):=Nat.le_trans HSz.out hk2.size
   clear hbd2 hk2 HW1
   have hi2:IntKind.i64.wrap ((i:Int)+2)=((2*(k+1):Nat):Int):=by rw[IntWalk.i64_in _ (by have:=HS.out; omega)]; omega
   go_wp2
   go_roundw
   case rel=>exact⟨k+1,l ++ [UInt8.ofNat z],by omega,rfl,HST,HBd2,HB2,HSz2⟩
   case measure=>simp[intOf]; omega
  ·obtain rfl:k=n:=by omega
   have htk:s.data.toList.take i=s.data.toList:=List.take_of_length_le (by have:=HL.out; have:=HN.out; omega)
   have hp:=HP.out
   rw[htk] at hp
   have HX:=zh (HYES.out l hp)
   have HSt:=zh (bstring_any _ _ _ wr HBl.out (by have:=HSz.out; omega))
   have q1:decide ((i:Int)<(s.size:Int))=false:=decide_eq_false (by have:=HN.out; omega)
   have q2:¬(i:Int)<(s.size:Int):=by have:=HN.out; omega
   clear hp htk
   go_wp2_with fail
   refine HSt.out.mono ?_
   rintro e w2 ⟨rfl,hb2⟩
   have HB2:=zh (HB.out.trans hb2)
   clear hb2
   go_wp2
   first | exact HX.out _ HB2.out | (go_ret2; exact HX.out _ HB2.out)
end
