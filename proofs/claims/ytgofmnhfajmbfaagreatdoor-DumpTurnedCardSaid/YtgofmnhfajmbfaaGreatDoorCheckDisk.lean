import Derived.Test.YtgofmnhfajmbfaaGreatDoorCheckThru
import Derived.Test.YtgofmnhfajmbfaaGreatDoorCheckGroup
import Derived.Test.YtgofmnhfajmbfaaGreatDoorDefSort
set_option maxRecDepth 20000
set_option maxHeartbeats 2000000
namespace Go.Proofs.YtgofmnhfajmbfaaGreatDoor
open Go Go.RowKit Txt Sp
def FullS (N:Nat) (S:Int→ByteArray):Prop:=∀k:Nat,k<N→(S k).size=64
def q128z (g:Sp.Geom) (N:Nat) (S:Int→ByteArray):Prop:=g.ok∧(N:Int)=g.size∧∀k:Nat,k<N→(S k).size=64
section
variable {w:World} {N:Nat} {g:Sp.Geom} {vs:Value} {K:Nat→Prop} {S:Int→ByteArray}
theorem cshapeOne_any (w:World) (s:ByteArray):Calls Tryz.prog 145 #[.string s] w fun e w'=>e = .returned (.bool (decide (s.size≠64)))∧w=w':=by
 by_cases h:s.size=64
 ·have q1:((s.size:Int) != 64)=false:=by rw[h]; rfl
  rw[decide_eq_false (fun h2=>h2 h)]
  clear h
  go_enter Tryz.func145,Tryz.ntmps145
  go_wp2
  go_ret
  exact⟨rfl,rfl⟩
 ·have q1:((s.size:Int) != 64)=true:=by simp; omega
  rw[decide_eq_true h]
  clear h
  go_enter Tryz.func145,Tryz.ntmps145
  go_wp2
  go_ret
  exact⟨rfl,rfl⟩
theorem cshapeIx_any (hs:q45z w vs N S K):Calls Tryz.prog 204 #[vs,.func (.func 145) #[] #[]] w fun e w'=>
 ∃r:Int,e = .returned (.int .i64 r)∧(0≤r↔¬FullS N S)∧w=w':=by
 obtain⟨b,o,cap,rfl,hb,-,hn,hc⟩:=hs
 have HC:=zh hc
 have HS:=zh (fun s:ByteArray=>cshapeOne_any w s)
 clear hb hc
 go_enter Tryz.func204,Tryz.ntmps204
 go_wp2
 go_loop [8] (fun i=>∃k:Nat,k≤N∧i = .int .i64 k∧Hid (∀t:Nat,t<k→(S t).size=64)) (fun i=>N-(intOf i).toNat)
 case atStart=>exact⟨0,Nat.zero_le _,rfl,zh (fun t h=>absurd h (Nat.not_lt_zero _))⟩
 case round=>
  obtain⟨k,hk,rfl,HA⟩:=hrel
  by_cases hlt:k<N
  ·have c0:=HC.out k hlt
   have hcall:=HS.out (S k)
   obtain⟨s,hse⟩:=zx (S k)
   rw[hse] at c0 hcall
   by_cases h64:s.size=64
   ·have HA2:Hid (∀t:Nat,t<k+1→(S t).size=64):=fun t ht=>by
     by_cases e:t<k
     ·exact HA.out t e
     ·obtain rfl:t=k:=by omega
      rw[hse]
      exact h64
    rw[decide_eq_false (fun h=>h h64)] at hcall
    have HCa:=zh hcall
    clear h64 hcall hse
    go_wp2_with fail
    refine HCa.out.mono ?_
    rintro e w2 ⟨rfl,rfl⟩
    go_wp2
    go_round
    case rel=>exact⟨k+1,by omega,by go_num,HA2⟩
    case measure=>simp[intOf]; omega
   ·have HE:Hid (0≤(k:Int)↔¬FullS N S):=⟨fun _ h=>h64 (by rw[←hse]; exact h k hlt),fun _=>by omega⟩
    rw[decide_eq_true h64] at hcall
    have HCa:=zh hcall
    clear h64 hcall hse
    go_wp2_with fail
    refine HCa.out.mono ?_
    rintro e w2 ⟨rfl,rfl⟩
    go_wp2
    go_ret
    exact⟨_,rfl,HE.out,rfl⟩
  ·have hkN:N=k:=by omega
   have HE:Hid (0≤(-1:Int)↔¬FullS N S):=⟨fun h=>absurd h (by decide),fun h=>absurd (fun t ht=>HA.out t (by omega)) h⟩
   clear hkN
   go_wp2
   go_ret
   exact⟨_,rfl,HE.out,rfl⟩
theorem cshapeAll_any (hs:q45z w vs N S K):Calls Tryz.prog 144 #[vs,.func (.func 145) #[] #[]] w fun e w'=>
 ∃b:Bool,e = .returned (.bool b)∧(b=true↔¬FullS N S)∧w=w':=by
 have HI:=zh (cshapeIx_any hs)
 clear hs
 go_enter Tryz.func144,Tryz.ntmps144
 go_wp2_with fail
 refine HI.out.mono ?_
 rintro e w1 ⟨r,rfl,hr,rfl⟩
 have HE:Hid (decide (r≥0)=true↔¬FullS N S):=by show _↔_; rw[decide_eq_true_iff]; exact hr
 clear hr
 go_wp2
 go_ret
 exact⟨_,rfl,HE.out,rfl⟩
theorem cshape_any (w:World) (g:Sp.Geom) (hs:q45z w vs N S K):Calls Tryz.prog 72 #[gV g,vs] w fun e w'=>∃b:Bool,e = .returned (.bool b)∧(b=true↔q128z g N S)∧Below w.heap.size w w':=by
 have hco:=fun W (hW:Below w.heap.size w W)=>cshapeAll_any (hs.below hW)
 have hck:=fun W:World=>q44z W g
 have hsz:=fun W:World=>q83z W g
 obtain⟨bv,o,cap,rfl,-,-,hN6,-⟩:=hs
 obtain⟨c,hc⟩:=zx (g.check)
 obtain⟨z,hz⟩:=zx (g.size)
 have hok:g.ok↔c=0:=by
  rw[←hc]
  unfold Geom.check
  split <;> simp_all
 have HD:Hid (∀b:Bool,(b=true↔¬FullS N S)→((c == 0 && ((N:Int) == z && !b))=true↔q128z g N S)):=fun b hb=>by
  unfold q128z
  unfold FullS at hb
  rw[hok,hz]
  cases b
  ·simp at hb
   simp
   intro _ _
   exact hb
  ·simp at hb
   simp
   intro _ _
   exact hb
 rw[hc] at hck
 rw[hz] at hsz
 obtain⟨ga,gb,gc⟩:=g
 unfold gV at *
 dsimp only at *
 obtain⟨W0,hW0⟩:=zg w ga gb gc
 have hk:=q14z hW0
 have HB0:=zh hk.1
 have HK:=zh hk.2
 clear hk
 have HCo:=zh (hco W0 (by rw[←hW0]; exact bl2 _))
 have HCK:=zh hck
 have HSZ:=zh hsz
 clear hck hsz
 clear hco hc hz hok
 obtain⟨z0,z1,z2⟩:=HK.out W0 (Below.refl _ _)
 go_enter Tryz.func72,Tryz.ntmps72
 go_wp2_with fail
 clear z0 z1 z2
 refine HCo.out.mono ?_
 rintro e w1 ⟨b,rfl,hb,rfl⟩
 have HD2:=zh (HD.out b hb)
 clear hb
 obtain⟨z0,z1,z2⟩:=HK.out W0 (Below.refl _ _)
 go_wp2_with fail
 clear z0 z1 z2
 refine(HCK.out _).mono ?_
 rintro e w2 ⟨rfl,hb2⟩
 have HB2:=zh hb2
 obtain⟨z0,z1,z2⟩:=HK.out w2 hb2
 clear hb2
 by_cases hc0:c=0
 ·have q0:(c == 0)=true:=by rw[hc0]; rfl
  go_wp2_with fail
  clear z0 z1 z2
  refine(HSZ.out _).mono ?_
  rintro e w3 ⟨rfl,hb3⟩
  have HB3:=zh (blN HB0.out (blN HB2.out hb3))
  clear hb3
  cases hq:((N:Int) == z) with
  | true=>
    have HD3:=HD2.out
    rw[q0,hq] at HD3
    have HD4:=zh HD3
    clear HD3
    cases b
    ·go_wp2
     go_ret
     exact⟨_,rfl,HD4.out,HB3.out⟩
    ·go_wp2
     go_ret
     exact⟨_,rfl,HD4.out,HB3.out⟩
  | false=>
    have HD3:=HD2.out
    rw[q0,hq] at HD3
    have HD4:=zh HD3
    clear HD3
    go_wp2
    go_ret
    exact⟨_,rfl,HD4.out,HB3.out⟩
 ·have q0:(c == 0)=false:=beq_eq_false_iff_ne.2 hc0
  have HD3:=HD2.out
  rw[q0] at HD3
  have HD4:=zh HD3
  clear HD3
  go_wp2
  go_ret
  exact⟨_,rfl,HD4.out,blN HB0.out HB2.out⟩
end
section
variable {w w1 w':World} {base B N:Nat} {g:Sp.Geom} {vs:Value} {m:LookP} {t t':Sp.Look} {D D' K:Nat→Prop} {S:Int→ByteArray}
def diskL (g:Sp.Geom) (S:Int→ByteArray):List (Int×Int):=(Look.disk g S).found.mergeSort leD
def DiskPost (w:World) (g:Sp.Geom) (N:Nat) (S:Int→ByteArray) (e:Ending) (w':World):Prop:=
 Below w.heap.size w w'∧((q128z g N S∧∃v,e = .returned (.tuple #[v,.int .i64 0])∧OwnR 132 2 defC w.heap.size w' v (diskL g S))∨(¬q128z g N S∧e = .returned (.tuple #[.slice none 0 0,.int .i64 4])))
theorem q8z.grow (h:q8z w base B g vs m t D w' D') (hb:∀j,D j→w1.heap.size≤j) (hw:Below w1.heap.size w1 w):Below w1.heap.size w1 w':=hw.trans (h.2.2.below (fun j hj=>hb j hj) hw.size)
theorem cdisk_any (w:World) (g:Sp.Geom) (hs:q45z w vs N S (fun _=>False)) (hm:MaxOk w):Calls Tryz.prog 16 #[gV g,vs] w (DiskPost w g N S):=by
 have hsh:=fun W (hW:Below w.heap.size w W)=>cshape_any W g (hs.below hW)
 have hth:=fun W (hW:Below w.heap.size w W) (hk:q128z g N S)=>cthrough_any W hk.1 (hs.below hW) hk.2.1 (hm.below hW)
 have hgr:=fun(W:World) (base B:Nat) (m:LookP) (t:Sp.Look) (D:Nat→Prop) (h:LookS W base B N g vs m S t D) (hi:t.Inv g 30000 0) (k:Nat) (hk:(k:Int)<g.groups)=>cgroup_any h hi hk
 have hinv:g.ok→(Look.through g S).Inv g 30000 0:=fun h=>Look.through_inv h
 have hmany:g.ok→∀k:Nat,k≤4→(Look.upto (fun t k=>t.group g S k) k (Look.through g S)).many≤100000:=fun h k hk=>many_disk h k hk
 obtain⟨G,hG⟩:=zx (g.groups.toNat)
 have hdk:Look.disk g S=Look.upto (fun t k=>t.group g S k) G (Look.through g S):=by unfold Look.disk; rw[hG]
 have hgG:g.ok→g.groups=(G:Int)∧G≤4:=fun h=>by have:=h.1; have:=h.2.1; omega
 obtain⟨bv,o,cap,rfl,-,-,hN6,-⟩:=hs
 obtain⟨T,hT⟩:=zx (Look.through g S)
 rw[hT] at hinv hmany hdk
 unfold ThruPost at hth
 rw[hT] at hth
 obtain⟨ga,gb,gc⟩:=g
 unfold gV at *
 dsimp only at *
 unfold pt at hgr hth
 obtain⟨W0,hW0⟩:=zg w ga gb gc
 have hk:=q14z hW0
 have HB0:=zh hk.1
 have HK:=zh hk.2
 clear hk
 have HSh:=zh (hsh W0 (by rw[←hW0]; exact bl2 _))
 have HTH:=zh hth
 have HGR:=zh hgr
 have HINV:=zh hinv
 have HMANY:=zh hmany
 have HDK:=zh hdk
 have HGG:=zh hgG
 clear hth hgr hinv hmany hdk hgG
 clear hsh hG hT hm
 obtain⟨z0,z1,z2⟩:=HK.out W0 (Below.refl _ _)
 go_enter Tryz.func16,Tryz.ntmps16
 go_wp2_with fail
 clear z0 z1 z2
 refine HSh.out.mono ?_
 rintro e w1 ⟨b,rfl,hb,hb1⟩
 have HB1:=zh (blN HB0.out hb1)
 have HB01:=zh hb1
 have HBS:=zh hb
 clear hb hb1
 cases b
 ·have HQ:Hid (DiskPost w ⟨ga,gb,gc⟩ N S (.returned (.tuple #[.slice none 0 0,.int .i64 4])) w1):=⟨HB1.out,Or.inr ⟨fun h=>absurd (HBS.out.2 h) (by simp),rfl⟩⟩
  go_wp2
  first | exact HQ.out | (go_ret2; exact HQ.out)
 ·have HOk:=zh (HBS.out.1 rfl)
  have hth1:=HTH.out w1 HB1.out HOk.out
  obtain⟨hgg,hG4⟩:=HGG.out HOk.out.1
  have HTh1:=zh hth1
  have HMany:=zh (HMANY.out HOk.out.1)
  have HInv:=zh (HINV.out HOk.out.1)
  have HGe:=zh hgg
  clear hth1 hgg
  obtain⟨z0,z1,z2⟩:=HK.out w1 HB01.out
  go_wp2_with fail
  clear z0 z1 z2
  with_reducible refine HTh1.out.mono ?_
  rintro e w2 ⟨B,m,D,rfl,hl2,hb2⟩
  have HL2:=zh hl2
  have HB02:Hid (Below W0.heap.size W0 w2):=blN HB01.out hb2
  have HB2:=zh (blN HB1.out hb2)
  have HW1:Hid (w.heap.size≤w1.heap.size):=HB1.out.size
  clear hl2 hb2
  obtain⟨z0,z1,z2⟩:=HK.out w2 HB02.out
  rw[HGe.out] at z0
  go_wp2
  clear z0 z1 z2
  go_loopw [18] (fun i18 wr=>∃k:Nat,k≤G∧i18 = .int .i64 (k:Int)∧Hid (q8z w2 w1.heap.size B ⟨ga,gb,gc⟩ (.slice (some ⟨bv,o,none⟩) N cap) m (Look.upto (fun t k=>t.group ⟨ga,gb,gc⟩ S k) k T) D wr D)) (fun i18 _=>G-(intOf i18).toNat)
  case atStart=>exact⟨0,Nat.zero_le _,rfl,q8z.none HL2.out.look (Below.refl _ _)⟩
  case round=>
   obtain⟨k,hk,rfl,HRel⟩:=hrel
   by_cases hlt:k<G
   ·have HS1:=zh (HL2.out.to HRel.out)
    have hcall:=HGR.out wr w1.heap.size B m _ D HS1.out ((Look.Told.groups T k).inv HInv.out) k (by rw[HGe.out]; omega)
    have HCa:=zh hcall
    clear hcall
    go_wp2_with fail
    with_reducible refine HCa.out.mono ?_
    rintro e w3 ⟨rfl,hto3⟩
    have HR1:Hid (q8z w2 w1.heap.size B ⟨ga,gb,gc⟩ (.slice (some ⟨bv,o,none⟩) N cap) m (Look.upto (fun t k=>t.group ⟨ga,gb,gc⟩ S k) (k+1) T) D w3 D):=HRel.out.trans hto3
    clear hto3
    go_wp2
    go_roundw
    case rel=>exact⟨k+1,by omega,by go_num,HR1⟩
    case measure=>simp[intOf]; omega
   ·have hkG:G=k:=by omega
    subst hkG
    obtain⟨T2,hT2⟩:∃T2,Look.upto (fun t k=>t.group ⟨ga,gb,gc⟩ S k) G T=T2:=⟨_,rfl⟩
    have hrel:=HRel.out
    have hmn:=HMany.out G hG4
    have hdk:=HDK.out
    rw[hT2] at hrel hmn hdk
    have hfl:T2.found.length≤1000000:=by unfold Look.many at hmn; omega
    have HB3:Hid (Below w.heap.size w wr):=hrel.grow (fun j hj=>by have:=(hrel.1.low.2 j hj).1; have:=HW1.out; omega) HB2.out
    obtain⟨-,-,-,-,-,-,c8⟩:=hrel.1.cells
    have hky:=dkeys_any (some m.found) wr
    have hco:=dcollect_any wr.heap.size m.found T2.found hfl (wr.alloc (.cells #[.map (some m.found)] 136)) (by simp) (by simp) (hrel.1.found.old (Below.heap_alloc _ _ _ hrel.1.found.lt))
    obtain⟨W4,hW4⟩:=zx (wr.alloc (.cells #[.map (some m.found)] 136))
    have HB4:Hid (Below w.heap.size w W4):=by rw[←hW4]; exact bl1 HB3.out _
    rw[hW4] at hky hco
    have HFl:=zh hfl
    have HDk:Hid (Look.disk ⟨ga,gb,gc⟩ S=T2):=hdk
    have HKY:=zh hky
    have HCO:=zh hco
    clear hky hco
    clear hrel hmn hdk hT2 hk hlt HRel hW4 hfl
    go_wp2_with fail
    clear c8
    with_reducible refine HKY.out.mono ?_
    rintro e w4 ⟨rfl,rfl⟩
    go_wp2_with fail
    with_reducible refine HCO.out.mono ?_
    rintro e w5 ⟨v5,xs,rfl,hp,ho,hb5⟩
    have hsrt:=dsort_any ho (by rw[hp.length_eq]; exact HFl.out)
    have HB5:=zh (blN HB4.out hb5)
    have hdl:xs.mergeSort leD=diskL ⟨ga,gb,gc⟩ S:=by
     unfold diskL
     rw[HDk.out]
     exact sortD_perm hp
    rw[hdl] at hsrt
    have HLt:Hid (∀k,v5.ownBlock=some k→w4.heap.size≤k):=fun k hk=>(ho.lt k hk).1
    obtain⟨ad,cp,hv5⟩:=ho.form
    subst hv5
    have HSRT:=zh hsrt
    clear hsrt
    clear hp ho hb5 hdl
    go_wp2_with fail
    with_reducible refine HSRT.out.mono ?_
    rintro e w6 ⟨rfl,ho6,hT6⟩
    have HQ:Hid (DiskPost w ⟨ga,gb,gc⟩ N S (.returned (.tuple #[.slice ad xs.length cp,.int .i64 0])) w6):=
     ⟨HB5.out.trans (hT6.below (fun j hj=>Nat.le_trans HB4.out.size (HLt.out j hj)) HB5.out.size),Or.inl ⟨HOk.out,_,rfl,ho6.mono HB4.out.size⟩⟩
    clear ho6 hT6
    go_wp2
    first | exact HQ.out | (go_ret2; exact HQ.out)
end
