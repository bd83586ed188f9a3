import Derived.Test.YtmljdnlmpiklgaaGreatDoorLoadPlain
import Derived.Test.YtmljdnlmpiklgaaGreatDoorDumpC
set_option maxRecDepth 20000
namespace Go.Proofs.YtmljdnlmpiklgaaGreatDoor
open Go Go.RowKit Txt Sp
def rowL (R f:Nat) (l:List (Int×Int)):List (Int×Int):=List.replicate f (0,0) ++ l ++ List.replicate (R-f-l.length) (0,0)
theorem rowL_length {R f:Nat} {l:List (Int×Int)} (h:f+l.length≤R):(rowL R f l).length=R:=by
 unfold rowL
 rw[List.length_append,List.length_append,List.length_replicate,List.length_replicate]
 omega
theorem rowL_zero {R f:Nat} (h:f≤R):rowL R f []=List.replicate R (0,0):=by
 unfold rowL
 rw[List.append_nil,List.length_nil,Nat.sub_zero,List.replicate_append_replicate]
 congr 1
 omega
theorem rowL_set {R f:Nat} {l:List (Int×Int)} (x:Int×Int) (h:f+l.length<R):(rowL R f l).set (f+l.length) x=rowL R f (l ++ [x]):=by
 unfold rowL
 rw[List.set_append_right _ _ (by rw[List.length_append,List.length_replicate]; exact Nat.le_refl _)]
 rw[List.length_append,List.length_replicate,show f+l.length-(f+l.length)=0 by omega,List.length_append,List.length_singleton,show R-f-l.length=(R-f-(l.length+1))+1 by omega,List.replicate_succ,List.set_cons_zero]
 simp only[List.append_assoc,List.cons_append,List.nil_append]
theorem leaseP_no1 {w:List UInt8} (h:(Lib.cut w [46]).2.2=false):q13z w=none:=by
 rw[leaseP_cut]
 generalize Lib.cut w [46]=t at h ⊢
 obtain⟨a,b,c⟩:=t
 cases h
 rfl
theorem numsP_two (a b:List UInt8):numsP [a,b]=match numP a,numP b with
 | some x,some y=>some [x,y]
 | _,_=>none:=by
 unfold numsP allP allP allP
 cases numP a <;> cases numP b <;> rfl
theorem leaseP_no2 {w:List UInt8} (h:numsP [(Lib.cut w [46]).1,(Lib.cut w [46]).2.1]=none):q13z w=none:=by
 rw[leaseP_cut]
 rw[numsP_two] at h
 generalize Lib.cut w [46]=t at h ⊢
 obtain⟨a,b,c⟩:=t
 dsimp only at h
 cases c with
 | false=>rfl
 | true=>
   dsimp only
   cases ha:numP a with
   | none=>rfl
   | some x=>
     cases hb:numP b with
     | none=>rfl
     | some y=>rw[ha,hb] at h; cases h
theorem leaseP_yes {w:List UInt8} (h1:(Lib.cut w [46]).2.2=true) {l:List Nat} (h:numsP [(Lib.cut w [46]).1,(Lib.cut w [46]).2.1]=some l):∃x y,l=[x,y]∧q13z w=some ((x:Int),(y:Int)):=by
 rw[leaseP_cut]
 rw[numsP_two] at h
 generalize Lib.cut w [46]=t at h h1 ⊢
 obtain⟨a,b,c⟩:=t
 cases h1
 dsimp only at h ⊢
 cases ha:numP a with
 | none=>rw[ha] at h; cases h
 | some x=>
   cases hb:numP b with
   | none=>rw[ha,hb] at h; cases h
   | some y=>
     rw[ha,hb] at h
     cases h
     exact⟨x,y,rfl,rfl⟩
theorem cutL_sizes (l:List UInt8) (c:UInt8):(Lib.cut l [c]).1.length≤l.length∧(Lib.cut l [c]).2.1.length≤l.length:=by
 rcases q59z l c with ⟨_,h,_⟩ | ⟨a,b,he,h,_⟩
 ·rw[h]
  exact⟨Nat.le_refl _,Nat.zero_le _⟩
 ·rw[h,he]
  simp only[List.length_append,List.length_cons]
  omega
theorem unleaseP_out {g:Sp.Geom} {a:Int} {ws:List (List UInt8)} (h:¬(0≤(a-2)*16∧(a-2)*16<g.regions∧(ws.length:Int)≤min 16 (g.regions-(a-2)*16))):q8z g a ws=none:=if_neg h
theorem unleaseP_none {g:Sp.Geom} {a:Int} {ws:List (List UInt8)} (h:allP q13z ws=none):q8z g a ws=none:=by
 unfold q8z
 rw[h]
 split <;> rfl
theorem unleaseP_some {g:Sp.Geom} {p f R:Nat} {ws:List (List UInt8)} {l:List (Int×Int)} (hf:16*p=f) (hR:g.regions=(R:Int)) (h1:f<R) (h2:(ws.length:Int)≤min 16 ((R:Int)-f)) (h:allP q13z ws=some l):q8z g ((p:Int)+2) ws=(tableN g (rowL R f l))[p]?:=by
 unfold q8z
 have e1:((p:Int)+2-2)*16=(f:Int):=by omega
 have hl:=q32z h
 rw[h,e1,hR,if_pos ⟨by omega,by omega,h2⟩]
 have e2:((p:Int)+2-2).toNat=p:=by omega
 have e3:((f:Int)).toNat=f:=by omega
 have e4:((R:Int)-(f:Int)-(ws.length:Int)).toNat=R-f-l.length:=by omega
 rw[e2,e3,e4]
 rfl
theorem texts_two {W:World} {b:Nat} {x y:ByteArray} {t:TypeId} {fr:Nat×Nat} (h:W.heap[b]? = some (.cells #[.string x,.string y] t fr)):Texts W (.slice (some ⟨b,0,none⟩) 2 2) [x,y]:=by
 refine⟨_,2,rfl,Nat.le_refl _,by unfold maxLen; omega,fun _=>⟨b,0,rfl,(Array.getElem?_eq_some_iff.1 h).1,fun j z hz=>?_⟩⟩
 match j,hz with
 | 0,hz=>cases hz; exact cellOf h rfl
 | 1,hz=>cases hz; exact cellOf h rfl
 | j+2,hz=>simp at hz
section
set_option maxHeartbeats 8000000
theorem dfirst_all (w:World) (a:Nat) (h1:a≤1000000):Calls Tryz.prog 82 #[.int .i64 (a:Int)] w fun e w'=>e = .returned (.int .i64 (((a:Int)-2)*16))∧w=w':=by
 have e1:IntKind.i64.wrap ((a:Int)-2)=(a:Int)-2:=IntWalk.i64_in _ (by omega)
 have e2:IntKind.i64.wrap (((a:Int)-2)*16)=((a:Int)-2)*16:=IntWalk.i64_in _ (by omega)
 go_enter Tryz.func82,Tryz.ntmps82
 go_wp2
 go_ret
 exact⟨rfl,rfl⟩
theorem dunleased_out (w:World) (g:Sp.Geom) (a:Nat) (v:Value) (ws:List (List UInt8)) (hg:g.ok) (ha:a≤1000000) (hv:Texts w v (ws.map ofL))
 (hout:¬(0≤((a:Int)-2)*16∧((a:Int)-2)*16<g.regions∧(ws.length:Int)≤min 16 (g.regions-((a:Int)-2)*16))) :
 Calls Tryz.prog 42 #[gV g,.int .i64 (a:Int),v] w (q1z (q8z g (a:Int) ws) w):=by
 have hbd:=Geom.regions_bd hg
 obtain⟨R,hR⟩:∃R:Nat,g.regions=(R:Int):=⟨g.regions.toNat,by omega⟩
 have hreg:=fun W:World=>gregions_any W g
 rw[hR] at hreg hbd
 have hfi:=fun W:World=>dfirst_all W a ha
 have hmk:=fun W:World=>run_make_leas W R (by omega)
 have hno:=fun(w':World) (hb:Below w.heap.size w w')=>rd_no (w:=w) (unleaseP_out hout) ⟨#[]⟩ hb
 obtain⟨Q,hQ⟩:=zx (q1z (q8z g (a:Int) ws) w)
 rw[hQ] at hno ⊢
 obtain⟨ad,n,cap,rfl,HN,hn2,HF⟩:=texts_facts hv
 have hn:n=ws.length:=by have:=HN.out; rw[List.length_map] at this; exact this
 rw[hR,←hn] at hout
 obtain⟨f,hf⟩:∃f:Int,((a:Int)-2)*16=f:=⟨_,rfl⟩
 have hfb:-32≤f∧f≤16000000:=by omega
 rw[hf] at hfi hout
 obtain⟨x,hx⟩:∃x:Int,(a:Int)=x:=⟨_,rfl⟩
 rw[hx] at hfi ⊢
 clear hQ hR hv hx hf hn HN HF hg
 obtain⟨ga,gb,gc⟩:=g
 unfold gV at hreg ⊢
 by_cases h1:f<0
 ·have q1:decide (f<0)=true:=decide_eq_true h1
  have HREG:=zh hreg
  have HFI:=zh hfi
  have HMK:=zh hmk
  have HNO:=zh hno
  clear hreg hfi hmk hno
  clear hout
  obtain⟨W0,hW0⟩:=zg w ga gb gc
  have hk:=g_keep hW0
  have HB0:=zh hk.1
  have HK:=zh hk.2
  clear hk
  obtain⟨z0,z1,z2⟩:=HK.out W0 (Below.refl _ _)
  go_enter Tryz.func42,Tryz.ntmps42
  go_wp2_with fail
  refine(HREG.out _).mono ?_
  rintro e w1 ⟨rfl,hb1⟩
  have HB1:=zh (blN (Below.refl _ _) hb1)
  clear hb1
  clear z0 z1 z2
  have hmk:=HMK.out w1
  go_wp2_with fail
  refine(HFI.out _).mono ?_
  rintro e w3 ⟨rfl,hw3⟩
  subst hw3
  go_wp2
  first | exact HNO.out _ (bl1 (blN HB0.out HB1.out) _) | (go_ret2; exact HNO.out _ (bl1 (blN HB0.out HB1.out) _))
 have q1:decide (f<0)=false:=decide_eq_false h1
 by_cases h2:(R:Int)≤f
 ·have q2:decide (f≥(R:Int))=true:=decide_eq_true h2
  have q2':decide ((R:Int)≤f)=true:=decide_eq_true h2
  have HREG:=zh hreg
  have HFI:=zh hfi
  have HMK:=zh hmk
  have HNO:=zh hno
  clear hreg hfi hmk hno
  clear hout
  obtain⟨W0,hW0⟩:=zg w ga gb gc
  have hk:=g_keep hW0
  have HB0:=zh hk.1
  have HK:=zh hk.2
  clear hk
  obtain⟨z0,z1,z2⟩:=HK.out W0 (Below.refl _ _)
  go_enter Tryz.func42,Tryz.ntmps42
  go_wp2_with fail
  refine(HREG.out _).mono ?_
  rintro e w1 ⟨rfl,hb1⟩
  have HB1:=zh (blN (Below.refl _ _) hb1)
  clear hb1
  clear z0 z1 z2
  have hmk:=HMK.out w1
  go_wp2_with fail
  refine(HFI.out _).mono ?_
  rintro e w3 ⟨rfl,hw3⟩
  subst hw3
  go_wp2
  first | exact HNO.out _ (bl1 (blN HB0.out HB1.out) _) | (go_ret2; exact HNO.out _ (bl1 (blN HB0.out HB1.out) _))
 have q2:decide (f≥(R:Int))=false:=decide_eq_false h2
 have q2':decide ((R:Int)≤f)=false:=decide_eq_false h2
 have h3:min 16 ((R:Int)-f)<(n:Int):=by omega
 have q3:IntKind.i64.wrap ((R:Int)-f)=(R:Int)-f:=IntWalk.i64_in _ (by omega)
 have q4:decide ((n:Int) > min 16 ((R:Int)-f))=true:=decide_eq_true h3
 have q4':decide (min 16 ((R:Int)-f)<(n:Int))=true:=decide_eq_true h3
 have HREG:=zh hreg
 have HFI:=zh hfi
 have HMK:=zh hmk
 have HNO:=zh hno
 clear hreg hfi hmk hno
 clear hout
 obtain⟨W0,hW0⟩:=zg w ga gb gc
 have hk:=g_keep hW0
 have HB0:=zh hk.1
 have HK:=zh hk.2
 clear hk
 obtain⟨z0,z1,z2⟩:=HK.out W0 (Below.refl _ _)
 go_enter Tryz.func42,Tryz.ntmps42
 go_wp2_with fail
 refine(HREG.out _).mono ?_
 rintro e w1 ⟨rfl,hb1⟩
 have HB1:=zh (blN (Below.refl _ _) hb1)
 clear hb1
 clear z0 z1 z2
 have hmk:=HMK.out w1
 go_wp2_with fail
 refine(HFI.out _).mono ?_
 rintro e w3 ⟨rfl,hw3⟩
 subst hw3
 go_wp2
 first | exact HNO.out _ (bl1 (blN HB0.out HB1.out) _) | (go_ret2; exact HNO.out _ (bl1 (blN HB0.out HB1.out) _))
theorem dunleased_in (w:World) (g:Sp.Geom) (p:Nat) (v:Value) (ws:List (List UInt8)) (hg:g.ok) (hm:MaxOk w) (hv:Texts w v (ws.map ofL)) (hs:∀x∈ws,x.length≤4000000)
 (h1:16*(p:Int)<g.regions) (h2:(ws.length:Int)≤min 16 (g.regions-16*(p:Int))) :
 Calls Tryz.prog 42 #[gV g,.int .i64 ((p:Int)+2),v] w (q1z (q8z g ((p:Int)+2) ws) w):=by
 have hbd:=Geom.regions_bd hg
 obtain⟨R,hR⟩:∃R:Nat,g.regions=(R:Int):=⟨g.regions.toNat,by omega⟩
 obtain⟨f,hf⟩:=zx (16*p)
 have hreg:=fun W:World=>gregions_any W g
 rw[hR] at hreg hbd h1 h2
 have hpa:(((p+2:Nat):Int))=(p:Int)+2:=by omega
 have hfi:=fun W:World=>dfirst_all W (p+2) (by omega)
 rw[hpa,show((p:Int)+2-2)*16=(f:Int) by omega] at hfi
 have hmk:=fun W:World=>run_make_leas W R (by omega)
 have hRb:R≤1000000:=by omega
 have hfR:f<R:=by omega
 have h16:(ws.length:Int)≤min 16 ((R:Int)-f):=by omega
 have hno:=fun(h:allP q13z ws=none) (w':World) (hb:Below w.heap.size w w')=>rd_no (w:=w) (unleaseP_none (g:=g) (a:=(p:Int)+2) h) ⟨#[]⟩ hb
 have hsome:=fun(l:List (Int×Int)) (h:allP q13z ws=some l)=>unleaseP_some hf hR hfR h16 h
 have hno2:=fun(h:q8z g ((p:Int)+2) ws=none) (w':World) (hb:Below w.heap.size w w')=>rd_no (w:=w) h ⟨#[]⟩ hb
 have hyes:=fun(s:ByteArray) (h:q8z g ((p:Int)+2) ws=some s) (w':World) (hb:Below w.heap.size w w')=>q37z (w:=w) h hb
 have hreads:=fun(W:World) (v:Value) (x y:List UInt8) (hv:Texts W v [ofL x,ofL y]) (hx:x.length≤4000000) (hy:y.length≤4000000)=>dreads_any W v [x,y] hv (by
  intro z hz
  simp only[List.mem_cons,List.not_mem_nil,or_false] at hz
  rcases hz with rfl | rfl <;> omega) (by simp)
 have hcut:=fun(W:World) (x:List UInt8) (hm:MaxOk W) (hx:x.length≤4000000)=>cutText_any (ofL x) 46 W hm (by rw[ofL_size]; omega)
 simp only[ofL_data] at hcut
 have hen:=fun(W:World) (v:Value) (l:List (Int×Int)) (hl:Leases W v l)=>tencode_any W g v l hl
 unfold TEnc at hen
 obtain⟨Q,hQ⟩:=zx (q1z (q8z g ((p:Int)+2) ws) w)
 rw[hQ] at hno hno2 hyes ⊢
 obtain⟨ad,n,cap,rfl,HN,hn2,HF⟩:=texts_facts hv
 have hn:n=ws.length:=by have:=HN.out; rw[List.length_map] at this; exact this
 rw[←hn] at h16
 have q1:decide ((f:Int)<0)=false:=decide_eq_false (by omega)
 have q2:decide ((f:Int)≥(R:Int))=false:=decide_eq_false (by omega)
 have q2':decide ((R:Int)≤(f:Int))=false:=decide_eq_false (by omega)
 have q2n:decide (R≤f)=false:=decide_eq_false (by omega)
 have q3:IntKind.i64.wrap ((R:Int)-(f:Int))=(R:Int)-(f:Int):=IntWalk.i64_in _ (by omega)
 have q4:decide ((n:Int) > min 16 ((R:Int)-(f:Int)))=false:=decide_eq_false (by omega)
 have q4':decide (min 16 ((R:Int)-(f:Int))<(n:Int))=false:=decide_eq_false (by omega)
 obtain⟨a,ha⟩:∃a:Int,(p:Int)+2=a:=⟨_,rfl⟩
 rw[ha] at hno2 hyes hsome hfi ⊢
 have hn16:n≤16:=by omega
 have hfn:f+n≤R:=by omega
 have HA:=zh ha
 have HNN:=zh hn
 have HM:=zh hm
 have HS:=zh hs
 have HP:=zh hf
 have HG:=zh hg
 obtain⟨tN,htN⟩:∃F:List (Int×Int)→List ByteArray,tableN g=F:=⟨_,rfl⟩
 obtain⟨tC,htC⟩:∃F:List (Int×Int)→Int,tableC g=F:=⟨_,rfl⟩
 rw[htN] at hsome hen
 rw[htC] at hen
 have HT:Hid (∀l,tC l≠0→tN l=[]):=by
  rw[←htN,←htC]
  intro l hl
  exact if_neg hl
 have HT2:Hid (∀l,tC l=0→∃s,(tN l)[p]? = some s):=by
  rw[←htN,←htC]
  intro l hl
  have hpN:p<(Sp.Geom.tables g).toNat:=by
   unfold Sp.Geom.tables
   rw[hR]
   omega
  unfold tableN
  rw[if_pos hl]
  exact⟨_,tabB_at l hpN⟩
 obtain⟨uP,huP⟩:=zx (q8z g a ws)
 rw[huP] at hno2 hyes hsome
 clear hQ hR hv hf hn hs hg hm h1 h2 hpa ha htN htC huP hbd
 obtain⟨ga,gb,gc⟩:=g
 unfold gV at hreg hen ⊢
 have HREG:=zh hreg
 have HFI:=zh hfi
 have HMK:=zh hmk
 have HNO:=zh hno
 have HNO2:=zh hno2
 have HYES:=zh hyes
 have HSOME:=zh hsome
 have HREADS:=zh hreads
 have HCUT:=zh hcut
 have HEN:=zh hen
 clear hreg hfi hmk hno hno2 hyes hsome hreads hcut hen
 obtain⟨W0,hW0⟩:=zg w ga gb gc
 have hk:=g_keep hW0
 have HB0:=zh hk.1
 have HK:=zh hk.2
 clear hk
 obtain⟨z0,z1,z2⟩:=HK.out W0 (Below.refl _ _)
 go_enter Tryz.func42,Tryz.ntmps42
 go_wp2_with fail
 refine(HREG.out _).mono ?_
 rintro e w1 ⟨rfl,hb1⟩
 have HB1:=zh (blN (Below.refl _ _) hb1)
 clear hb1
 clear z0 z1 z2
 have hmk:=HMK.out w1
 obtain⟨W2,hW2⟩:=zx (w1.alloc (leasO (List.replicate R (0,0)) 97))
 have hr2:W2.heap[w1.heap.size]? = some (leasO (rowL R f []) 97):=by rw[rowL_zero (by omega),←hW2]; exact heapNew w1 _
 have HB2:Hid (Below W0.heap.size W0 W2):=by rw[←hW2]; exact bl1 HB1.out _
 have HR2:=zh hr2
 rw[hW2] at hmk
 clear hr2 hW2
 go_wp2_with fail
 refine(HFI.out _).mono ?_
 rintro e w3 ⟨rfl,hw3⟩
 replace hw3:=hw3.symm
 subst hw3
 go_wp2_with fail
 go_loopw [10,11,12,13,14,15,16,44] (fun _ _ _ _ _ _ _ i wr=>∃(k:Nat) (l:List (Int×Int)),k≤n∧i = .int .i64 (k:Int)∧Hid (allP q13z (ws.take k)=some l)∧Hid (l.length=k)∧Hid (wr.heap[w1.heap.size]? = some (leasO (rowL R f l) 97))∧Hid (Below W0.heap.size W0 wr)) (fun _ _ _ _ _ _ _ i _=>n-(intOf i).toNat)
 case atStart=>exact⟨0,[],Nat.zero_le _,rfl,rfl,rfl,HR2,HB2⟩
 case round=>
  obtain⟨k,l,hk,rfl,HPk,HLn,HR,HB⟩:=hrel
  by_cases hlt:k<n
  ·obtain⟨b,o,x,rfl,hb,hx,hc⟩:=HF.out k hlt
   rw[List.getElem?_map] at hx
   obtain⟨y,hy,rfl⟩:=Option.map_eq_some_iff.1 hx
   have c0:=((blN HB0.out HB.out).cell (p:=⟨b,o+k,none⟩) hb).trans hc
   have hmem:=List.mem_of_getElem? hy
   have hcu:=fun(W:World) (hm:MaxOk W)=>HCUT.out W y hm (HS.out y hmem)
   have hno1:=fun(h:q13z y=none)=>HNO.out (q46z hmem h)
   have htk:=take_step hy
   have hsz:=cutL_sizes y 46
   have hysz:=HS.out y hmem
   have hl1:=leaseP_no1 (w:=y)
   have hl2:=leaseP_no2 (w:=y)
   have hl3:=leaseP_yes (w:=y)
   obtain⟨X,hX⟩:=zx (ofL y)
   obtain⟨⟨A,B,bb⟩,hC⟩:∃t,Lib.cut y [46]=t:=⟨_,rfl⟩
   rw[hX] at c0 hcu
   rw[hC] at hcu hsz hl1 hl2 hl3
   dsimp only at hcu hsz hl1 hl2 hl3
   have hrd:=fun(W:World) (v:Value) (hv:Texts W v [ofL A,ofL B])=>HREADS.out W v A B hv (by omega) (by omega)
   unfold q24z at hrd
   obtain⟨SA,hSA⟩:=zx (ofL A)
   obtain⟨SB,hSB⟩:=zx (ofL B)
   rw[hSA,hSB] at hcu hrd
   have HCU:=zh hcu
   have HRD:=zh hrd
   have HNO1:=zh hno1
   have HTK:=zh htk
   have HL1:=zh hl1
   have HL2:=zh hl2
   have HL3:=zh hl3
   clear hcu hrd hno1 htk hl1 hl2 hl3
   clear hx hc hb hy hmem hX hC hsz hysz hSA hSB
   go_wp2_with fail
   refine(HCU.out _ (HM.out.below (blN HB0.out HB.out))).mono ?_
   rintro e w4 ⟨rfl,hb4⟩
   have HB4:=zh (blN HB.out hb4)
   have HR4:=zh (heapOld hb4 HR.out)
   clear hb4 c0
   go_wp2_with fail
   refine(HRD.out _ _ (texts_two (heapNew w4 _))).mono ?_
   rintro e w5 ⟨nv,rfl,hown5,hb5⟩
   have HB5:=zh (blN (bl1 HB4.out _) hb5)
   have HR5:=zh (heapOld (blN (bl2 _) hb5) HR4.out)
   clear hb5
   cases hnum:numsP [A,B] with
   | none=>
     have HX:=zh (HNO1.out (HL2.out hnum))
     rw[hnum] at hown5
     obtain⟨oad,ocap,rfl⟩:=hown5.form
     clear hown5 hnum
     cases bb with
     | false=>
       go_wp2
       first | exact HX.out _ (blN HB0.out HB5.out) | (go_ret2; exact HX.out _ (blN HB0.out HB5.out))
     | true=>
       go_wp2
       first | exact HX.out _ (blN HB0.out HB5.out) | (go_ret2; exact HX.out _ (blN HB0.out HB5.out))
   | some l2=>
     rw[hnum] at hown5
     cases bb with
     | false=>
       have HX:=zh (HNO1.out (HL1.out rfl))
       obtain⟨oad,ocap,rfl⟩:=hown5.form
       clear hown5 hnum
       go_wp2
       first | exact HX.out _ (blN HB0.out HB5.out) | (go_ret2; exact HX.out _ (blN HB0.out HB5.out))
     | true=>
       obtain⟨m1,m2,rfl,hP⟩:=HL3.out rfl hnum
       have HP2:Hid (allP q13z (ws.take (k+1))=some (l ++ [((m1:Int),(m2:Int))])):=by
        show _=_
        rw[HTK.out]
        exact q38z HPk.out hP
       have hints:Ints w5 nv [(m1:Int),(m2:Int)]:=hown5.ints
       obtain⟨bk,oo,ncap,hnv,hbk,hcl⟩:=hints.open (by simp)
       have hnv2:nv = .slice (some ⟨bk,oo,none⟩) 2 ncap:=hnv
       subst hnv2
       have d0:w5.cell? ⟨bk,oo,none⟩=some (.int .i64 (m1:Int)):=hcl 0 _ rfl
       have d1:w5.cell? ⟨bk,oo+1,none⟩=some (.int .i64 (m2:Int)):=hcl 1 _ rfl
       obtain⟨j,hj⟩:=zx (f+k)
       have e1:IntKind.i64.wrap ((f:Int)+(k:Int))=(j:Int):=by rw[IntWalk.i64_in _ (by omega)]; omega
       have hjR:j<R:=by omega
       have hjR2:(j:Int)<(R:Int):=by omega
       have hlen:(rowL R f l).length=R:=rowL_length (by have:=HLn.out; omega)
       obtain⟨x,hx⟩:∃x,(rowL R f l)[j]? = some x:=⟨_,List.getElem?_eq_getElem (by rw[hlen]; exact hjR)⟩
       obtain⟨W6,hW6⟩:=zx (w5.drew)
       have HB6:Hid (Below W0.heap.size W0 W6):=by rw[←hW6]; exact blD HB5.out
       have hr6:W6.heap[w1.heap.size]? = some (leasO (rowL R f l) 97):=by rw[←hW6]; exact HR5.out
       obtain⟨c0,c1⟩:=q52z hr6 hx
       have v0:W6.frozen? ⟨w1.heap.size,j*2,none⟩=false:=leas_free hr6
       have v1:W6.frozen? ⟨w1.heap.size,j*2+1,none⟩=false:=leas_free hr6
       have hs7:=leas_set2 hr6 (i:=j) (by rw[hlen]; exact hjR) ((m1:Int),(m2:Int))
       have hst:=rowL_set (R:=R) (f:=f) (l:=l) ((m1:Int),(m2:Int)) (by have:=HLn.out; omega)
       rw[HLn.out,hj] at hst
       rw[hst] at hs7
       have hb7:=(HB6.out.setCell (p:=⟨w1.heap.size,j*2,none⟩) HB1.out.size (.int .i64 (m1:Int))).setCell (p:=⟨w1.heap.size,j*2+1,none⟩) HB1.out.size (.int .i64 (m2:Int))
       have HS7:=zh hs7
       have HB7:=zh hb7
       have HLn2:Hid ((l ++ [((m1:Int),(m2:Int))]).length=k+1):=by show _=_; rw[List.length_append,HLn.out]; rfl
       have HW6:=zh hW6
       clear hown5 hnum hP hints hcl hbk hlen hx hr6 hst hs7 hb7 hW6
       go_wp2_with fail
       go_still_tail 12,(by kernel_rfl)
       change wpList _ _ _ _ _ (w5.drew)
       rw[HW6.out]
       go_wp2
       go_roundw
       case rel=>exact⟨k+1,l ++ [((m1:Int),(m2:Int))],by omega,by go_num,HP2,HLn2,HS7,HB7⟩
       case measure=>simp[intOf]; omega
  ·obtain rfl:k=n:=by omega
   have htk:ws.take k=ws:=List.take_of_length_le (by rw[HNN.out]; exact Nat.le_refl _)
   have hp:=HPk.out
   rw[htk] at hp
   have hsm:=HSOME.out l hp
   have hll:(rowL R f l).length=R:=rowL_length (by have:=HLn.out; omega)
   have hrow:Leases wr (.slice (some ⟨w1.heap.size,0,none⟩) R R) (rowL R f l):=leas_row HR.out (by rw[hll]; unfold maxLen; omega) hll.symm
   have henc:=HEN.out wr _ _ hrow
   obtain⟨L,hL⟩:=zx (rowL R f l)
   rw[hL] at hsm henc
   obtain⟨c,hc⟩:=zx (tC L)
   rw[hc] at henc
   have HEnc:=zh henc
   obtain⟨z0,z1,z2⟩:=HK.out wr HB.out
   by_cases hc0:c=0
   ·subst hc0
    obtain⟨s,hs⟩:=HT2.out L hc
    have HX:=zh (HYES.out s (hsm.trans hs))
    have HAt:=zh hs
    have e5:IntKind.i64.wrap (a-2)=(p:Int):=by rw[IntWalk.i64_in _ (by have:=HA.out; have:=HP.out; omega)]; have:=HA.out; omega
    clear hp htk hsm hll hrow henc hL hc hs
    go_wp2_with fail
    refine HEnc.out.mono ?_
    rintro e w4 ⟨v,rfl,hown4,hb4⟩
    have hown5:=hown4.texts
    obtain⟨ad2,N,cap2,rfl,HN4,hn4,HF4⟩:=texts_facts hown5
    have hpN:p<N:=by rw[HN4.out]; exact(List.getElem?_eq_some_iff.1 HAt.out).1
    have hpN2:(p:Int)<(N:Int):=by omega
    obtain⟨b,o,x,rfl,hbb,hx,hcl⟩:=HF4.out p hpN
    obtain rfl:s=x:=Option.some.inj (HAt.out.symm.trans hx)
    have HB4:=zh (blN HB.out hb4)
    clear hown4 hown5 hb4 hx HF4 z0 z1 z2 hbb
    go_wp2
    first | exact HX.out _ (blN HB0.out HB4.out) | (go_ret2; exact HX.out _ (blN HB0.out HB4.out))
   ·have q5:(c == 0)=false:=beq_eq_false_iff_ne.2 hc0
    have q6:(c != 0)=true:=by rw[bne,q5]; rfl
    have HX:=zh (HNO2.out (by rw[hsm,HT.out L (by rw[hc]; exact hc0)]; rfl))
    clear hp htk hsm hll hrow henc hL hc hc0
    go_wp2_with fail
    refine HEnc.out.mono ?_
    rintro e w4 ⟨v,rfl,hown4,hb4⟩
    have HB4:=zh (blN HB.out hb4)
    have hown5:=hown4.texts
    obtain⟨ad2,N,cap2,rfl,HN4,hn4,HF4⟩:=texts_facts hown5
    clear hown4 hb4 z0 z1 z2 hown5
    go_wp2
    first | exact HX.out _ (blN HB0.out HB4.out) | (go_ret2; exact HX.out _ (blN HB0.out HB4.out))
theorem dunleased_any (w:World) (g:Sp.Geom) (a:Nat) (v:Value) (ws:List (List UInt8)) (hg:g.ok) (ha:a≤1000000) (hm:MaxOk w) (hv:Texts w v (ws.map ofL)) (hs:∀x∈ws,x.length≤4000000) :
 Calls Tryz.prog 42 #[gV g,.int .i64 (a:Int),v] w (q1z (q8z g (a:Int) ws) w):=by
 by_cases h:0≤((a:Int)-2)*16∧((a:Int)-2)*16<g.regions∧(ws.length:Int)≤min 16 (g.regions-((a:Int)-2)*16)
 ·obtain⟨p,hp⟩:∃p:Nat,(a:Int)=(p:Int)+2:=⟨a-2,by omega⟩
  rw[hp] at h ⊢
  exact dunleased_in w g p v ws hg hm hv hs (by omega) (by omega)
 ·exact dunleased_out w g a v ws hg ha hv h
end
