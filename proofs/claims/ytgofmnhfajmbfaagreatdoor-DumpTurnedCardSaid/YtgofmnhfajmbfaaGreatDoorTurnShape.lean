import Derived.Test.YtgofmnhfajmbfaaGreatDoorDumpHex
import Derived.Test.YtgofmnhfajmbfaaGreatDoorCheckDisk
set_option maxRecDepth 20000
set_option maxHeartbeats 4000000
namespace Go.Proofs.YtgofmnhfajmbfaaGreatDoor
open Go Go.RowKit Txt Sp
def badAt:List ByteArray→Int
 | []=>-1
 | s :: r=>if s.size≠64 then 0 else(if badAt r<0 then -1 else badAt r+1)
theorem badAt_neg (l:List ByteArray):badAt l<0↔∀s∈l,s.size=64:=by
 induction l with
 | nil=>simp[badAt]
 | cons a r ih=>
   unfold badAt
   by_cases h:a.size=64
   ·rw[if_neg (by simp[h])]
    split
    ·rename_i h2
     simp[h]
     exact ih.1 h2
    ·rename_i h2
     constructor
     ·intro h3; omega
     ·intro h3
      exact absurd (ih.2 (fun s hs=>h3 s (List.mem_cons_of_mem _ hs))) h2
   ·rw[if_pos (by simpa using h)]
    constructor
    ·intro h3; omega
    ·intro h3; exact absurd (h3 a (List.mem_cons_self ..)) h
theorem badAt_first:∀(l:List ByteArray) (k:Nat) (s:ByteArray),(∀t∈l.take k,t.size=64)→l[k]? = some s→s.size≠64→badAt l=(k:Int)
 | [],_,_,_,h,_=>by simp at h
 | a :: r,0,s,_,h,h2=>by
   have e:a=s:=by simpa using h
   unfold badAt
   rw[e,if_pos h2]
   rfl
 | a :: r,k+1,s,h0,h,h2=>by
   have ih:=badAt_first r k s (fun t ht=>h0 t (by rw[List.take_succ_cons]; exact List.mem_cons_of_mem _ ht)) (by simpa using h) h2
   have ha:a.size=64:=h0 a (by rw[List.take_succ_cons]; exact List.mem_cons_self ..)
   unfold badAt
   rw[if_neg (by simp[ha]),ih,if_neg (by omega)]
   omega
theorem badAt_none {l:List ByteArray} (h:∀t∈l,t.size=64):badAt l = -1:=by
 induction l with
 | nil=>rfl
 | cons a r ih=>
   have h1:=ih (fun t ht=>h t (List.mem_cons_of_mem _ ht))
   unfold badAt
   rw[if_neg (by simp[h a (List.mem_cons_self ..)]),h1]
   rfl
section
theorem dsec_any (w:World) (s:ByteArray):Calls Tryz.prog 158 #[.string s] w fun e w'=>e = .returned (.bool (!decide (s.size=64)))∧w=w':=by
 by_cases h:s.size=64
 ·have f1:((s.size:Int) == 64)=true:=by rw[h]; rfl
  have f2:((s.size:Int) != 64)=false:=by rw[h]; rfl
  rw[decide_eq_true h]
  clear h
  go_enter Tryz.func158,Tryz.ntmps158
  go_wp2
  go_ret
  exact⟨ret_b (by simp),rfl⟩
 ·have f1:((s.size:Int) == 64)=false:=beq_eq_false_iff_ne.2 (by omega)
  have f2:((s.size:Int) != 64)=true:=by rw[bne,f1]; rfl
  rw[decide_eq_false h]
  clear h
  go_enter Tryz.func158,Tryz.ntmps158
  go_wp2
  go_ret
  exact⟨ret_b (by simp),rfl⟩
theorem dindex_any (w:World) (v:Value) (l:List ByteArray) (hv:Texts w v l):Calls Tryz.prog 204 #[v,.func (.func 158) #[] #[]] w fun e w'=>e = .returned (.int .i64 (badAt l))∧w=w':=by
 obtain⟨ad,n,cap,rfl,HN,hn2,HF⟩:=q26z hv
 clear hv
 have HS:Hid (∀(W:World) (s:ByteArray),Calls Tryz.prog 158 #[.string s] W fun e w'=>e = .returned (.bool (!decide (s.size=64)))∧W=w'):=fun W s=>dsec_any W s
 go_enter Tryz.func204,Tryz.ntmps204
 go_wp2
 go_loop [8] (fun i=>∃k:Nat,k≤n∧i = .int .i64 k∧Hid (∀t∈l.take k,t.size=64)) (fun i=>n-(intOf i).toNat)
 case atStart=>exact⟨0,Nat.zero_le _,rfl,zh (by simp)⟩
 case round=>
  obtain⟨k,hk,rfl,HA⟩:=hrel
  by_cases hlt:k<n
  ·obtain⟨b,o,x,rfl,hb,hx,hc⟩:=HF.out k hlt
   have hk0:(k:Int)<(n:Int):=by omega
   by_cases h64:x.size=64
   ·have HA2:=zh (q115z HA.out hx h64)
    have hcall:=HS.out w x
    rw[decide_eq_true h64] at hcall
    have HC:=zh hcall
    clear hx h64 hcall
    go_wp2_with fail
    refine HC.out.mono ?_
    rintro e w2 ⟨rfl,rfl⟩
    go_wp2
    go_round
    case rel=>exact⟨k+1,by omega,by go_num,HA2⟩
    case measure=>simp[intOf]; omega
   ·have HE:=zh (badAt_first l k x HA.out hx h64)
    have hcall:=HS.out w x
    rw[decide_eq_false h64] at hcall
    have HC:=zh hcall
    clear hx h64 hcall
    go_wp2_with fail
    refine HC.out.mono ?_
    rintro e w2 ⟨rfl,rfl⟩
    go_wp2
    go_ret
    exact⟨ret_i HE.out.symm,rfl⟩
  ·have htk:l.take k=l:=List.take_of_length_le (by have:=HN.out; omega)
   have ha:=HA.out
   rw[htk] at ha
   have HE:=zh (badAt_none ha)
   clear ha htk
   go_wp2
   go_ret
   exact⟨ret_i HE.out.symm,rfl⟩
theorem dcontains_any (w:World) (v:Value) (l:List ByteArray) (hv:Texts w v l):Calls Tryz.prog 144 #[v,.func (.func 158) #[] #[]] w fun e w'=>e = .returned (.bool (decide (0≤badAt l)))∧w=w':=by
 have hi:=dindex_any w v l hv
 obtain⟨c,hc⟩:=zx (badAt l)
 rw[hc] at hi ⊢
 have HI:=zh hi
 clear hi
 clear hc hv
 go_enter Tryz.func144,Tryz.ntmps144
 go_wp2_with fail
 refine HI.out.mono ?_
 rintro e w1 ⟨rfl,rfl⟩
 go_wp2
 go_ret
 exact⟨rfl,rfl⟩
theorem dshape_any (w:World) (g:Sp.Geom) (v:Value) (l:List ByteArray) (hv:Texts w v l):Calls Tryz.prog 81 #[gV g,v] w fun e w'=>e = .returned (.bool (decide (q27z g l)))∧Below w.heap.size w w':=by
 have hb:=fun o:Obj=>dcontains_any (w.alloc o) v l (hv.below (bl2 o))
 have hc:=fun W:World=>q44z W g
 have hz:=fun W:World=>q83z W g
 have hall:=badAt_neg l
 obtain⟨ad,n,cap,rfl,HN,hn2,_⟩:=q26z hv
 obtain⟨b,hbd⟩:=zx (decide (0≤badAt l))
 have hbi:b=false↔∀s∈l,s.size=64:=by
  rw[←hbd,←hall,decide_eq_false_iff_not]
  omega
 rw[hbd] at hb
 obtain⟨z,hz0⟩:=zx (g.size)
 rw[hz0] at hz
 have hD:∀q:Bool,(q=true↔(g.ok∧(n:Int)=z∧b=false))→q=decide (q27z g l):=fun q hq=>by
  rw[Bool.eq_iff_iff,hq,decide_eq_true_iff,hbi]
  unfold q27z
  rw[hz0,←HN.out]
 have HD:=zh hD
 obtain⟨R,hR⟩:=zx (decide (q27z g l))
 rw[hR] at HD ⊢
 clear hD hR hbi hall hbd hz0 hv
 by_cases hg:g.ok
 rotate_left
 ·rw[Geom.check_no hg] at hc
  obtain rfl:false=R:=HD.out false (by simp[hg])
  obtain⟨ga,gb,gc⟩:=g
  unfold gV at hc hz ⊢
  have HB:=zh hb
  have HC:=zh hc
  have HZ:=zh hz
  clear hb hc hz
  clear hg HD
  go_enter Tryz.func81,Tryz.ntmps81
  go_wp2_with fail
  refine(HB.out _).mono ?_
  rintro e w1 ⟨rfl,rfl⟩
  go_wp2_with fail
  refine(HC.out _).mono ?_
  rintro e w2 ⟨rfl,hb2⟩
  have HB2:=zh (blN (bl2 _) hb2)
  clear hb2
  go_wp2
  go_ret
  exact⟨rfl,HB2.out⟩
 rw[Geom.check_ok hg] at hc
 by_cases hn:(n:Int)=z
 rotate_left
 ·obtain rfl:false=R:=HD.out false (by simp[hn])
  have f1:((n:Int) == z)=false:=beq_eq_false_iff_ne.2 hn
  obtain⟨ga,gb,gc⟩:=g
  unfold gV at hc hz ⊢
  have HB:=zh hb
  have HC:=zh hc
  have HZ:=zh hz
  clear hb hc hz
  clear hg HD hn
  go_enter Tryz.func81,Tryz.ntmps81
  go_wp2_with fail
  refine(HB.out _).mono ?_
  rintro e w1 ⟨rfl,rfl⟩
  go_wp2_with fail
  refine(HC.out _).mono ?_
  rintro e w2 ⟨rfl,hb2⟩
  obtain⟨z0,z1,z2⟩:=q116z hb2
  have HB2:=zh (blN (bl2 _) hb2)
  clear hb2
  go_wp2_with fail
  clear z0 z1 z2
  refine(HZ.out _).mono ?_
  rintro e w3 ⟨rfl,hb3⟩
  have HB3:=zh (blN HB2.out hb3)
  clear hb3
  go_wp2
  go_ret
  exact⟨rfl,HB3.out⟩
 ·have HR:Hid ((!b)=R):=HD.out (!b) (by simp[hg,hn])
  have f1:((n:Int) == z)=true:=beq_iff_eq.2 hn
  obtain⟨ga,gb,gc⟩:=g
  unfold gV at hc hz ⊢
  have HB:=zh hb
  have HC:=zh hc
  have HZ:=zh hz
  clear hb hc hz
  clear hg HD hn
  go_enter Tryz.func81,Tryz.ntmps81
  go_wp2_with fail
  refine(HB.out _).mono ?_
  rintro e w1 ⟨rfl,rfl⟩
  go_wp2_with fail
  refine(HC.out _).mono ?_
  rintro e w2 ⟨rfl,hb2⟩
  obtain⟨z0,z1,z2⟩:=q116z hb2
  have HB2:=zh (blN (bl2 _) hb2)
  clear hb2
  go_wp2_with fail
  clear z0 z1 z2
  refine(HZ.out _).mono ?_
  rintro e w3 ⟨rfl,hb3⟩
  have HB3:=zh (blN HB2.out hb3)
  clear hb3
  go_wp2
  go_ret
  exact⟨ret_b HR.out,HB3.out⟩
theorem ret_sb {T:ByteArray} {a b:Bool} (h:a=b):Ending.returned (.tuple #[.string T,.bool a]) = .returned (.tuple #[.string T,.bool b]):=by rw[h]
def MapL (word:List UInt8) (s:ByteArray) (n:Int):List UInt8:=word ++ listL (if mapC s n=0 then q12z s.data.toList n.toNat else [])
theorem dmapped_any (w:World) (word:List UInt8) (s:ByteArray) (n:Int) (hw:word.length≤100) (ht:TabOk w):Calls Tryz.prog 224 #[.string (ofL word),.string s,.int .i64 n] w fun e w'=>e = .returned (.tuple #[.string (ofL (MapL word s n)),.bool (decide (mapC s n=0))])∧Below w.heap.size w w':=by
 have hp:=fun W:World=>mplaces_any W s n
 have hnum:=fun(W:World) (v:Value) (l:List Nat) (hv:Ints W v (l.map (fun n:Nat=>(n:Int)))) (hl:l.length≤1000) (hall:∀n∈l,n<9223372036854775808) (ht:TabOk W)=>q69z W word v l hv (by omega) hl hall ht
 have hlb:∀x∈(if mapC s n=0 then q12z s.data.toList n.toNat else []),x<64:=fun x hx=>by
  split at hx
  ·rename_i h
   have hz:=q64z h
   unfold q12z at hx
   have:=(List.mem_filter.1 hx).1
   rw[List.mem_range] at this
   omega
  ·cases hx
 have hll:(if mapC s n=0 then q12z s.data.toList n.toNat else []).length≤64:=by
  split
  ·rename_i h
   have hz:=q64z h
   have:=placesL_length s.data.toList n.toNat
   omega
  ·simp
 unfold q106z at hp
 unfold MapL
 obtain⟨c,hc⟩:=zx (mapC s n)
 obtain⟨L,hL⟩:=zx ((if mapC s n=0 then q12z s.data.toList n.toNat else []))
 rw[hL] at hlb hll ⊢
 simp only[hL] at hp
 rw[hc] at hp ⊢
 obtain⟨T,hT⟩:=zx (ofL (word ++ listL L))
 have hnum2:=fun(W:World) (v:Value) (hv:Ints W v (L.map (fun n:Nat=>(n:Int)))) (ht:TabOk W)=>hnum W v L hv (by omega) (fun n hn=>by have:=hlb n hn; omega) ht
 rw[hT] at hnum2 ⊢
 have HT:=zh ht
 have HNu:=zh hnum2
 have HP:=zh hp
 clear hp
 clear hnum hnum2 hlb hll hc hL hT ht hw
 go_enter Tryz.func224,Tryz.ntmps224
 go_wp2_with fail
 refine(HP.out _).mono ?_
 rintro e w1 ⟨v,rfl,hv,hb1⟩
 have HV:Hid (Ints w1 v (L.map (fun n:Nat=>(n:Int)))):=by
  have hv2:w1.ownsRow w.heap.size 3 1 v L.length (L.map (fun n:Nat=>Value.int .i64 (n:Int))):=hv
  refine ints_of_own (base:=w.heap.size) ?_
  rw[List.length_map,List.map_map]
  exact hv2
 have HB1:=zh hb1
 clear hv hb1
 go_wp2_with fail
 refine(HNu.out _ _ HV.out (HT.out.below HB1.out)).mono ?_
 rintro e w2 ⟨rfl,hb2⟩
 have HB2:=zh (blN HB1.out hb2)
 clear hb2
 by_cases h0:c=0
 ·subst h0
  go_wp2
  go_ret2
  exact⟨rfl,HB2.out⟩
 ·have f1:(c == 0)=false:=beq_eq_false_iff_ne.2 h0
  have HD:Hid (decide (c=0)=false):=decide_eq_false h0
  clear h0
  go_wp2
  go_ret2
  exact⟨ret_sb HD.out.symm,HB2.out⟩
end
section
theorem tsec_any (w:World) (s:ByteArray):Calls Tryz.prog 145 #[.string s] w fun e w'=>e = .returned (.bool (!decide (s.size=64)))∧w=w':=by
 by_cases h:s.size=64
 ·have f1:((s.size:Int) == 64)=true:=by rw[h]; rfl
  have f2:((s.size:Int) != 64)=false:=by rw[h]; rfl
  rw[decide_eq_true h]
  clear h
  go_enter Tryz.func145,Tryz.ntmps145
  go_wp2
  go_ret
  exact⟨ret_b (by simp),rfl⟩
 ·have f1:((s.size:Int) == 64)=false:=beq_eq_false_iff_ne.2 (by omega)
  have f2:((s.size:Int) != 64)=true:=by rw[bne,f1]; rfl
  rw[decide_eq_false h]
  clear h
  go_enter Tryz.func145,Tryz.ntmps145
  go_wp2
  go_ret
  exact⟨ret_b (by simp),rfl⟩
theorem tindex_any (w:World) (v:Value) (l:List ByteArray) (hv:Texts w v l):Calls Tryz.prog 204 #[v,.func (.func 145) #[] #[]] w fun e w'=>e = .returned (.int .i64 (badAt l))∧w=w':=by
 obtain⟨ad,n,cap,rfl,HN,hn2,HF⟩:=q26z hv
 clear hv
 have HS:Hid (∀(W:World) (s:ByteArray),Calls Tryz.prog 145 #[.string s] W fun e w'=>e = .returned (.bool (!decide (s.size=64)))∧W=w'):=fun W s=>tsec_any W s
 go_enter Tryz.func204,Tryz.ntmps204
 go_wp2
 go_loop [8] (fun i=>∃k:Nat,k≤n∧i = .int .i64 k∧Hid (∀t∈l.take k,t.size=64)) (fun i=>n-(intOf i).toNat)
 case atStart=>exact⟨0,Nat.zero_le _,rfl,zh (by simp)⟩
 case round=>
  obtain⟨k,hk,rfl,HA⟩:=hrel
  by_cases hlt:k<n
  ·obtain⟨b,o,x,rfl,hb,hx,hc⟩:=HF.out k hlt
   have hk0:(k:Int)<(n:Int):=by omega
   by_cases h64:x.size=64
   ·have HA2:=zh (q115z HA.out hx h64)
    have hcall:=HS.out w x
    rw[decide_eq_true h64] at hcall
    have HC:=zh hcall
    clear hx h64 hcall
    go_wp2_with fail
    refine HC.out.mono ?_
    rintro e w2 ⟨rfl,rfl⟩
    go_wp2
    go_round
    case rel=>exact⟨k+1,by omega,by go_num,HA2⟩
    case measure=>simp[intOf]; omega
   ·have HE:=zh (badAt_first l k x HA.out hx h64)
    have hcall:=HS.out w x
    rw[decide_eq_false h64] at hcall
    have HC:=zh hcall
    clear hx h64 hcall
    go_wp2_with fail
    refine HC.out.mono ?_
    rintro e w2 ⟨rfl,rfl⟩
    go_wp2
    go_ret
    exact⟨ret_i HE.out.symm,rfl⟩
  ·have htk:l.take k=l:=List.take_of_length_le (by have:=HN.out; omega)
   have ha:=HA.out
   rw[htk] at ha
   have HE:=zh (badAt_none ha)
   clear ha htk
   go_wp2
   go_ret
   exact⟨ret_i HE.out.symm,rfl⟩
theorem tcontains_any (w:World) (v:Value) (l:List ByteArray) (hv:Texts w v l):Calls Tryz.prog 144 #[v,.func (.func 145) #[] #[]] w fun e w'=>e = .returned (.bool (decide (0≤badAt l)))∧w=w':=by
 have hi:=tindex_any w v l hv
 obtain⟨c,hc⟩:=zx (badAt l)
 rw[hc] at hi ⊢
 have HI:=zh hi
 clear hi
 clear hc hv
 go_enter Tryz.func144,Tryz.ntmps144
 go_wp2_with fail
 refine HI.out.mono ?_
 rintro e w1 ⟨rfl,rfl⟩
 go_wp2
 go_ret
 exact⟨rfl,rfl⟩
theorem tshape_any (w:World) (g:Sp.Geom) (v:Value) (l:List ByteArray) (hv:Texts w v l):Calls Tryz.prog 72 #[gV g,v] w fun e w'=>e = .returned (.bool (decide (q27z g l)))∧Below w.heap.size w w':=by
 have hb:=fun o:Obj=>tcontains_any (w.alloc o) v l (hv.below (bl2 o))
 have hc:=fun W:World=>q44z W g
 have hz:=fun W:World=>q83z W g
 have hall:=badAt_neg l
 obtain⟨ad,n,cap,rfl,HN,hn2,_⟩:=q26z hv
 obtain⟨b,hbd⟩:=zx (decide (0≤badAt l))
 have hbi:b=false↔∀s∈l,s.size=64:=by
  rw[←hbd,←hall,decide_eq_false_iff_not]
  omega
 rw[hbd] at hb
 obtain⟨z,hz0⟩:=zx (g.size)
 rw[hz0] at hz
 have hD:∀q:Bool,(q=true↔(g.ok∧(n:Int)=z∧b=false))→q=decide (q27z g l):=fun q hq=>by
  rw[Bool.eq_iff_iff,hq,decide_eq_true_iff,hbi]
  unfold q27z
  rw[hz0,←HN.out]
 have HD:=zh hD
 obtain⟨R,hR⟩:=zx (decide (q27z g l))
 rw[hR] at HD ⊢
 clear hD hR hbi hall hbd hz0 hv
 by_cases hg:g.ok
 rotate_left
 ·rw[Geom.check_no hg] at hc
  obtain rfl:false=R:=HD.out false (by simp[hg])
  obtain⟨ga,gb,gc⟩:=g
  unfold gV at hc hz ⊢
  have HB:=zh hb
  have HC:=zh hc
  have HZ:=zh hz
  clear hb hc hz
  clear hg HD
  go_enter Tryz.func72,Tryz.ntmps72
  go_wp2_with fail
  refine(HB.out _).mono ?_
  rintro e w1 ⟨rfl,rfl⟩
  go_wp2_with fail
  refine(HC.out _).mono ?_
  rintro e w2 ⟨rfl,hb2⟩
  have HB2:=zh (blN (bl2 _) hb2)
  clear hb2
  go_wp2
  go_ret
  exact⟨rfl,HB2.out⟩
 rw[Geom.check_ok hg] at hc
 by_cases hn:(n:Int)=z
 rotate_left
 ·obtain rfl:false=R:=HD.out false (by simp[hn])
  have f1:((n:Int) == z)=false:=beq_eq_false_iff_ne.2 hn
  obtain⟨ga,gb,gc⟩:=g
  unfold gV at hc hz ⊢
  have HB:=zh hb
  have HC:=zh hc
  have HZ:=zh hz
  clear hb hc hz
  clear hg HD hn
  go_enter Tryz.func72,Tryz.ntmps72
  go_wp2_with fail
  refine(HB.out _).mono ?_
  rintro e w1 ⟨rfl,rfl⟩
  go_wp2_with fail
  refine(HC.out _).mono ?_
  rintro e w2 ⟨rfl,hb2⟩
  obtain⟨z0,z1,z2⟩:=q116z hb2
  have HB2:=zh (blN (bl2 _) hb2)
  clear hb2
  go_wp2_with fail
  clear z0 z1 z2
  refine(HZ.out _).mono ?_
  rintro e w3 ⟨rfl,hb3⟩
  have HB3:=zh (blN HB2.out hb3)
  clear hb3
  go_wp2
  go_ret
  exact⟨rfl,HB3.out⟩
 ·have HR:Hid ((!b)=R):=HD.out (!b) (by simp[hg,hn])
  have f1:((n:Int) == z)=true:=beq_iff_eq.2 hn
  obtain⟨ga,gb,gc⟩:=g
  unfold gV at hc hz ⊢
  have HB:=zh hb
  have HC:=zh hc
  have HZ:=zh hz
  clear hb hc hz
  clear hg HD hn
  go_enter Tryz.func72,Tryz.ntmps72
  go_wp2_with fail
  refine(HB.out _).mono ?_
  rintro e w1 ⟨rfl,rfl⟩
  go_wp2_with fail
  refine(HC.out _).mono ?_
  rintro e w2 ⟨rfl,hb2⟩
  obtain⟨z0,z1,z2⟩:=q116z hb2
  have HB2:=zh (blN (bl2 _) hb2)
  clear hb2
  go_wp2_with fail
  clear z0 z1 z2
  refine(HZ.out _).mono ?_
  rintro e w3 ⟨rfl,hb3⟩
  have HB3:=zh (blN HB2.out hb3)
  clear hb3
  go_wp2
  go_ret
  exact⟨ret_b HR.out,HB3.out⟩
theorem tdiskNo_any (w:World) (g:Sp.Geom) (v:Value) (l:List ByteArray) (hv:Texts w v l) (h:¬q27z g l):Calls Tryz.prog 16 #[gV g,v] w fun e w'=>e = .returned (.tuple #[.slice none 0 0,.int .i64 4])∧Below w.heap.size w w':=by
 have hsh:=fun W (hW:Below w.heap.size w W)=>tshape_any W g v l (hv.below hW)
 rw[decide_eq_false h] at hsh
 obtain⟨ad,n,cap,rfl,-,-,-⟩:=q26z hv
 obtain⟨ga,gb,gc⟩:=g
 unfold gV at *
 dsimp only at *
 obtain⟨W0,hW0⟩:=zg w ga gb gc
 have hk:=q14z hW0
 have HB0:=zh hk.1
 have HK:=zh hk.2
 clear hk
 have HSh:=zh (hsh W0 (by rw[←hW0]; exact bl2 _))
 clear hsh hv h
 obtain⟨z0,z1,z2⟩:=HK.out W0 (Below.refl _ _)
 go_enter Tryz.func16,Tryz.ntmps16
 go_wp2_with fail
 clear z0 z1 z2
 refine HSh.out.mono ?_
 rintro e w1 ⟨rfl,hb1⟩
 have HB1:Hid (Below w.heap.size w w1):=blN HB0.out hb1
 clear hb1
 go_wp2
 first | exact⟨rfl,HB1.out⟩ | (go_ret2; exact⟨rfl,HB1.out⟩)
theorem tdiskYes_any (w:World) (g:Sp.Geom) (v:Value) (l:List ByteArray) (hv:Texts w v l) (h:q27z g l) (hm:MaxOk w):Calls Tryz.prog 16 #[gV g,v] w fun e w'=>∃u,e = .returned (.tuple #[u,.int .i64 0])∧Below w.heap.size w w':=by
 have hz:=Geom.size_bd h.1
 obtain⟨ad,cap,rfl,h1,h2,h3⟩:=hv
 have hl:0<l.length:=by have:=h.2.1; omega
 obtain⟨b,off,rfl,hb,hc⟩:=h3 hl
 have hs:q45z w (.slice (some ⟨b,off,none⟩) l.length cap) l.length (fun k=>l.getD k.toNat ⟨#[]⟩) (fun _=>False):=⟨b,off,cap,rfl,hb,fun h=>h,by have:=h.2.1; omega,fun k hk=>by
  show _=some (Value.string (l.getD (k:Int).toNat ⟨#[]⟩))
  rw[hc k l[k] (List.getElem?_eq_getElem hk),Int.toNat_natCast,List.getD_eq_getElem?_getD,List.getElem?_eq_getElem hk]
  rfl⟩
 refine(cdisk_any w g hs hm).mono ?_
 rintro e w' ⟨hb,⟨-,u,rfl,-⟩ | ⟨hno,-⟩⟩
 ·exact⟨u,rfl,hb⟩
 ·refine absurd ⟨h.1,h.2.1,fun k hk=>?_⟩ hno
  show(l.getD (k:Int).toNat ⟨#[]⟩).size=64
  rw[Int.toNat_natCast,List.getD_eq_getElem?_getD,List.getElem?_eq_getElem hk]
  exact h.2.2 _ (List.getElem_mem hk)
end
