import Derived.Test.YtmljdnlmpiklgaaGreatDoorLoadSector
import Derived.Test.YtmljdnlmpiklgaaGreatDoorSpLoadR
namespace Go.Proofs.YtmljdnlmpiklgaaGreatDoor
open Go Go.RowKit Txt Sp
theorem splitC_any (c:UInt8) (s:ByteArray) (w:World) (hm:MaxOk w) (hs:s.size≤4000000) :
 Calls Tryz.prog 15 #[.string s,.string ⟨#[c]⟩] w fun e w'=>∃v,e = .returned v∧Texts w' v (q14z c s)∧Below w.heap.size w w':=by
 obtain⟨m,hm⟩:=hm
 refine(Tryz.strings_Split s ⟨#[c]⟩ m w (by omega) hm (Nat.le_refl 1)).mono ?_
 rintro e w' ⟨rfl,rfl⟩
 refine⟨_,rfl,?_,(Below.refl _ _).alloc (Nat.le_refl _) _⟩
 have hl:=q21z (c0:=c) s
 rw[splitB_at,count_at]
 exact Texts.laid w (q14z c s) _ (by unfold maxLen; omega)
def textC (s:ByteArray):List Value:=[.string s]
def OwnS (base:Nat) (w:World) (v:Value) (l:List ByteArray):Prop:=OwnR 9 1 textC base w v l
theorem textC_map (l:List ByteArray):l.flatMap textC=l.map Value.string:=by
 induction l with
 | nil=>rfl
 | cons x r ih=>rw[List.flatMap_cons,ih]; rfl
def q28z (g:Sp.Geom) (t:ByteArray) (w:World) (e:Ending) (w':World):Prop:=
 ∃v,e = .returned (.tuple #[v,.int .i64 ((loadN g t).2.1:Int),.int .i64 (loadN g t).2.2])∧OwnS w.heap.size w' v (loadN g t).1∧Below w.heap.size w w'
theorem q54z {g:Sp.Geom} {t:ByteArray} {k:Nat} {c:Int} {w w':World} (h:loadN g t=([],k,c)) (hb:Below w.heap.size w w'):q28z g t w (.returned (.tuple #[.slice none 0 0,.int .i64 (k:Int),.int .i64 c])) w':=by
 refine⟨_,by rw[h],?_,hb⟩
 rw[h]
 exact OwnR.void _ _
theorem load_yes {g:Sp.Geom} {t:ByteArray} {l:List ByteArray} {v:Value} {w w':World} (h:loadN g t=(l,0,0)) (ho:OwnS w.heap.size w' v l) (hb:Below w.heap.size w w'):q28z g t w (.returned (.tuple #[v,.int .i64 0,.int .i64 0])) w':=by
 refine⟨_,by rw[h]; rfl,?_,hb⟩
 rw[h]
 exact ho
section
set_option maxHeartbeats 16000000
set_option maxRecDepth 20000 in
theorem dload_any (w:World) (g:Sp.Geom) (t:ByteArray) (ht:TabOk w) (hm:MaxOk w) :
 Calls Tryz.prog 7 #[gV g,.string t] w (q28z g t w):=by
 have hch:=fun W:World=>gcheck_any W g
 by_cases hg:g.ok
 rotate_left
 focus
  --[
  rw[Geom.check_no hg] at hch
  have hno:=fun(w':World) (hb:Below w.heap.size w w')=>q54z (loadN_shape hg t) hb
  obtain⟨Q,hQ⟩:=zx (q28z g t w)
  rw[hQ] at hno ⊢
  obtain⟨ga,gb,gc⟩:=g
  unfold gV at hch ⊢
  have HCH:=zh hch
  have HNO:=zh hno
  clear hch hno
  clear hg hQ ht hm
  obtain⟨W0,hW0⟩:=zg w ga gb gc
  have hk:=g_keep hW0
  have HB0:=zh hk.1
  have HK:=zh hk.2
  clear hk
  obtain⟨z0,z1,z2⟩:=HK.out W0 (Below.refl _ _)
  go_enter Tryz.func7,Tryz.ntmps7
  go_wp2_with fail
  refine(HCH.out _).mono ?_
  rintro e w1 ⟨rfl,hb1⟩
  have HB1:=zh (blN (Below.refl _ _) hb1)
  clear hb1
  clear z0 z1 z2
  go_wp2
  first | exact HNO.out _ (blN HB0.out HB1.out) | (go_ret2; exact HNO.out _ (blN HB0.out HB1.out))
  --]
 rw[Geom.check_ok hg] at hch
 by_cases hlong:1048576<t.size
 focus
  --[
  have hno:=fun(w':World) (hb:Below w.heap.size w w')=>q54z (loadN_long hg hlong) hb
  have q1:decide ((t.size:Int) > 1048576)=true:=decide_eq_true (by omega)
  have q2:(1048576:Int)<(t.size:Int):=by omega
  obtain⟨Q,hQ⟩:=zx (q28z g t w)
  rw[hQ] at hno ⊢
  obtain⟨ga,gb,gc⟩:=g
  unfold gV at hch ⊢
  have HCH:=zh hch
  have HNO:=zh hno
  clear hch hno
  clear hg hQ ht hm
  obtain⟨W0,hW0⟩:=zg w ga gb gc
  have hk:=g_keep hW0
  have HB0:=zh hk.1
  have HK:=zh hk.2
  clear hk
  obtain⟨z0,z1,z2⟩:=HK.out W0 (Below.refl _ _)
  go_enter Tryz.func7,Tryz.ntmps7
  go_wp2_with fail
  refine(HCH.out _).mono ?_
  rintro e w1 ⟨rfl,hb1⟩
  have HB1:=zh (blN (Below.refl _ _) hb1)
  clear hb1
  clear z0 z1 z2
  go_wp2
  first | exact HNO.out _ (blN HB0.out HB1.out) | (go_ret2; exact HNO.out _ (blN HB0.out HB1.out))
  --]
 have q1:decide ((t.size:Int) > 1048576)=false:=decide_eq_false (by omega)
 have q2:¬(1048576:Int)<(t.size:Int):=by omega
 obtain⟨L,hL⟩:=zx (cutAt 10 t.data.toList)
 have hts:t.data.toList.length=t.size:=rfl
 have hLne:L≠[]:=by rw[←hL]; exact q40z _
 have hLsz:∀x∈L,x.length≤1048576:=fun x hx=>by rw[←hL] at hx; have:=(q29z hx).2; omega
 have hLB:q14z 10 t=L.map ofL:=by unfold q14z; rw[hL]
 have hLn:L.length≤1048577:=by have:=q21z (c0:=10) t; rw[hLB,List.length_map] at this; omega
 obtain⟨m,hLm⟩:∃m,L.length=m+1:=⟨L.length-1,by have:=List.length_pos_iff.2 hLne; omega⟩
 have hsplit:=fun(W:World) (hW:Below w.heap.size w W)=>splitC_any 10 t W (hm.below hW) (by omega)
 rw[hLB] at hsplit
 have hcut:=fun(W:World) (hW:Below w.heap.size w W) (x:List UInt8) (hx:x.length≤1048576)=>splitC_any 32 (ofL x) W (hm.below hW) (by rw[ofL_size]; omega)
 have hcut2:∀x:List UInt8,q14z 32 (ofL x)=(cutAt 32 x).map ofL:=fun x=>by unfold q14z; rw[ofL_data]
 simp only[hcut2] at hcut
 have hwsz:∀(x y:List UInt8),x.length≤1048576→y∈cutAt 32 x→y.length≤4000000:=fun x y h1 h2=>by have:=(q29z h2).2; omega
 have hwn:∀(x:List UInt8),x.length≤1048576→(cutAt 32 x).length≤4000000:=fun x h1=>by
  have:=q21z (c0:=32) (ofL x); rw[hcut2,List.length_map,ofL_size] at this; omega
 have hsz:=Geom.size_bd hg
 have hsize:=fun W:World=>gsize_any W g
 have hnum:=fun(W:World) (k:Nat) (hk:k≤1048577) (hW:Below w.heap.size w W)=>q44z W k (by omega) (ht.below hW)
 have hsec:=fun(W:World) (a:Nat) (v:Value) (x:List UInt8) (r:List (List UInt8)) (ha:(a:Int)<g.size) (hW:Below w.heap.size w W) (hv:Texts W v ((x :: r).map ofL)) (hs:∀y∈x :: r,y.length≤4000000) (hl:(x :: r).length≤4000000)=>
  dsector_any W g a v x r hg (by omega) (hm.below hW) hv hs hl
 have hline:=fun(W:World) (a:Nat) (s:ByteArray) (ha:(a:Int)<g.size) (hs:s.size=64) (hW:Below w.heap.size w W)=>dline_any W g a s hg ha hs (ht.below hW) (hm.below hW)
 have hlt:¬1048576<t.size:=hlong
 have hno:=fun(k:Nat) (h:q5z g 0 L=(none,k)) (w':World) (hb:Below w.heap.size w w')=>q54z (loadN_none hg hlt (by rw[hL]; exact h)) hb
 have hyes:=fun(l:List ByteArray) (h:q5z g 0 L=(some l,0)) (v:Value) (w':World) (ho:OwnS w.heap.size w' v l) (hb:Below w.heap.size w w')=>load_yes (loadN_some hg hlt (by rw[hL]; exact h)) ho hb
 obtain⟨Q,hQ⟩:=zx (q28z g t w)
 rw[hQ] at hno hyes ⊢
 obtain⟨Z,hZ⟩:∃Z:Int,g.size=Z:=⟨_,rfl⟩
 rw[hZ] at hsize hsz hsec hline
 have HFrom:Hid (∀k x r,L.drop k=x :: r→x∈L):=fun k x r h=>List.mem_of_mem_drop (h ▸ List.mem_cons_self ..)
 obtain⟨G,hG⟩:=zx (g)
 have HGs:Hid (G.size=Z):=by rw[←hG]; exact hZ
 have hLd:∀k,k<m+1→∃x r,L.drop k=x :: r∧L[k]? = some x∧(k<m↔r≠[]):=fun k hk=>by
  have h:=List.drop_eq_getElem_cons (l:=L) (i:=k) (by omega)
  refine⟨_,_,h,List.getElem?_eq_getElem (by omega),?_⟩
  rw[ne_eq,List.drop_eq_nil_iff,hLm]
  omega
 have hq6:IntKind.i64.wrap ((L.length:Int)-1)=(m:Int):=by rw[IntWalk.i64_in _ (by omega)]; omega
 obtain⟨n,hn⟩:=zx (L.length)
 have hnm:n=m+1:=by omega
 rw[hn] at hq6
 have HF0:Hid (q5z g 0 L=preL [] (q5z g 0 (L.drop 0))):=(preL_nil _).symm
 rw[hG] at hno hyes hsec hline HF0
 have HG0:Hid (∀W:World,Calls Tryz.prog 11 #[gV G] W fun e w'=>e = .returned (.int .i64 Z)∧Below W.heap.size W w'):=by rw[←hG]; exact hsize
 rw[hG]
 rw[hG] at hch
 have HNM:=zh hnm
 have HLSZ:=zh hLsz
 have HLD:=zh hLd
 have HSZ:=zh hsz
 have HCH:=zh hch
 have HSPLIT:=zh hsplit
 have HCUT:=zh hcut
 have HWSZ:=zh hwsz
 have HWN:=zh hwn
 have HNUM:=zh hnum
 have HSEC:=zh hsec
 have HLINE:=zh hline
 have HNO:=zh hno
 have HYES:=zh hyes
 clear hch hsplit hcut hwsz hwn hnum hsec hline hno hyes
 clear hG hg hQ ht hm hlong hlt hL hts hLne hLB hLn hLm hcut2 hsize hZ hnm hLsz hLd hsz
 obtain⟨ga,gb,gc⟩:=G
 unfold gV at HG0 HCH HSEC HLINE ⊢
 obtain⟨W0,hW0⟩:=zg w ga gb gc
 have hk:=g_keep hW0
 have HB0:=zh hk.1
 have HK:=zh hk.2
 clear hk
 obtain⟨z0,z1,z2⟩:=HK.out W0 (Below.refl _ _)
 go_enter Tryz.func7,Tryz.ntmps7
 go_wp2_with fail
 refine(HCH.out _).mono ?_
 rintro e w1 ⟨rfl,hb1⟩
 have HB1:=zh (blN (Below.refl _ _) hb1)
 clear hb1
 clear z0 z1 z2
 go_wp2_with fail
 refine(HSPLIT.out _ (blN HB0.out HB1.out)).mono ?_
 rintro e w2 ⟨lv,rfl,hlv,hb2⟩
 have HB2:=zh (blN HB1.out hb2)
 obtain⟨ad,N,cap,rfl,HN,hn2,HF⟩:=texts_facts hlv
 have hNn:N=n:=by have:=HN.out; rw[List.length_map,hn] at this; exact this
 subst hNn
 have HNn:=zh hn
 clear hb2 hlv hn
 go_wp2_with fail
 go_loopw [4,29] (fun out i wr=>∃(k:Nat) (acc:List ByteArray),k<N∧i = .int .i64 k∧Hid (q5z ⟨ga,gb,gc⟩ 0 L=preL acc (q5z ⟨ga,gb,gc⟩ k (L.drop k)))∧Hid (acc.length=k∧(k:Int)≤Z)∧Hid (OwnS w2.heap.size wr out acc)∧Hid (Below w2.heap.size w2 wr)) (fun _ i _=>N-(intOf i).toNat)
 case atStart=>exact⟨0,[],by have:=HNM.out; omega,rfl,HF0,⟨rfl,by have:=HSZ.out; omega⟩,OwnR.void _ _,Below.refl _ _⟩
 case round=>
  obtain⟨k,acc,hk,rfl,HP,HA,HO,HBx⟩:=hrel
  have HB:=zh (blN HB2.out HBx.out)
  obtain⟨x,r,hdr,hget,hkm⟩:=HLD.out k (by have:=HNM.out; omega)
  obtain⟨b,o,X,rfl,hb,hx,hc⟩:=HF.out k hk
  have hX:ofL x=X:=by rw[List.getElem?_map,hget] at hx; exact Option.some.inj hx
  have c0:=(HBx.out.cell (p:=⟨b,o+k,none⟩) hb).trans hc
  have hxl:x.length≤1048576:=HLSZ.out x (HFrom.out k x r hdr)
  have hp:=HP.out
  rw[hdr] at hp
  have hbad:=fun(h:q5z ⟨ga,gb,gc⟩ k (x :: r)=(none,k+1)) (w':World) (hb:Below w.heap.size w w')=>HNO.out (k+1) (by rw[hp,h]; rfl) w' hb
  simp only[Int.natCast_add,Int.natCast_one] at hbad
  have hw1:IntKind.i64.wrap ((k:Int)+1)=(k:Int)+1:=IntWalk.i64_in _ (by have:=HSZ.out; have:=HA.out; omega)
  have qe:(X.toList == [])=decide (x=[]):=by rw[←hX]; exact q20z x []
  have hcu:=fun(W:World) (hW:Below w.heap.size w W)=>HCUT.out W hW x hxl
  rw[hX] at hcu
  obtain⟨z0,z1,z2⟩:=HK.out wr HB.out
  by_cases hkm2:k=m
  ·--[
   have hr:r=[]:=by
    by_cases h:r=[]
    ·exact h
    ·exact absurd (hkm.2 h) (by omega)
   subst hr
   rw[loadFrom_end] at hp hbad
   subst hkm2
   by_cases hz:(k:Int)=Z
   ·have qz:((k:Int) == Z)=true:=beq_iff_eq.2 hz
    by_cases hx0:x=[]
    ·have HYes:=zh (HYES.out acc (by rw[hp,if_pos ⟨hz.trans HGs.out.symm,hx0⟩]; simp[preL]))
     rw[decide_eq_true hx0] at qe
     clear hz hp hbad hX hb hx hc hdr hget hkm hxl hx0 hcu
     go_wp2_with fail
     refine(HG0.out _).mono ?_
     rintro e w3 ⟨rfl,hb3⟩
     have HY:=zh (HYes.out _ _ (OwnR.mono (OwnR.below HO.out hb3) (blN HB0.out HB2.out).size) (blN HB0.out (blN HB.out hb3)))
     obtain⟨oad,ocap,rfl⟩:=HO.out.form
     clear c0 z0 z1 z2 hb3
     go_wp2
     first | exact HY.out | (go_ret3; exact HY.out)
    ·have hh:(if(k:Int)=Sp.Geom.size ⟨ga,gb,gc⟩∧x=[] then((some [],0):Option (List ByteArray)×Nat) else(none,k+1))=(none,k+1):=if_neg fun h=>hx0 h.2
     rw[decide_eq_false hx0] at qe
     have HBad:=zh (hbad hh)
     have HCU:=zh hcu
     clear hcu
     clear hh hz hp hbad hX hb hx hc hdr hget hkm hxl
     go_wp2_with fail
     refine(HG0.out _).mono ?_
     rintro e w3 ⟨rfl,hb3⟩
     have HB3:=zh (blN HB.out hb3)
     clear hb3
     go_wp2_with fail
     refine(HCU.out _ (blN HB0.out HB3.out)).mono ?_
     rintro e w4 ⟨v4,rfl,hv4,hb4⟩
     have HB4:=zh (blN HB3.out hb4)
     obtain⟨ad4,N4,cap4,rfl,HN4,hn4,HF4⟩:=texts_facts hv4
     clear hb4 hv4 c0 z0 z1 z2
     go_wp2_with fail
     refine wp_region_held_drew (S:=(fun _=>True)) (by kernel_rfl) (by first | trivial | assumption) (fun hHeld=>?_)
     refine tkH 0 ?_; simp only[Act.put,ps0]
     refine tkH 1 ?_; simp only[Act.put,ps0]
     refine tkH 2 ?_; simp only[Act.put,ps0]
     refine tkH 3 ?_; simp only[Act.put,ps0]
     refine wpAnyH_take (i:=4) (v:=undef) rfl (by kernel_rfl) (by kernel_rfl) (by kernel_rfl) (fun _ _ _ h=>h) (Or.inr ⟨by rfl,rfl⟩) hHeld ?_
     simp only[Act.put,ps0]
     refine wpAnyH_take (i:=5) (v:=undef) rfl (by kernel_rfl) (by kernel_rfl) (by kernel_rfl) (fun _ _ _ h=>h) (Or.inr ⟨by rfl,rfl⟩) hHeld ?_
     simp only[Act.put,ps0]
     refine wpAnyH_take (i:=6) (v:=undef) rfl (by kernel_rfl) (by kernel_rfl) (by kernel_rfl) (fun _ _ _ h=>h) (Or.inr ⟨by rfl,rfl⟩) hHeld ?_
     simp only[Act.put,ps0]
     refine wpAnyH_take (i:=7) (v:=undef) rfl (by kernel_rfl) (by kernel_rfl) (by kernel_rfl) (fun _ _ _ h=>h) (Or.inr ⟨by rfl,rfl⟩) hHeld ?_
     simp only[Act.put,ps0]
     refine tkH 8 ?_; simp only[Act.put,ps0]
     refine tkH 9 ?_; simp only[Act.put,ps0]
     refine wpAnyH_take (i:=10) (v:=undef) rfl (by kernel_rfl) (by kernel_rfl) (by kernel_rfl) (fun _ _ _ h=>h) (Or.inr ⟨by rfl,rfl⟩) hHeld ?_
     simp only[Act.put,ps0]
     refine wpAnyH_take (i:=11) (v:=undef) rfl (by kernel_rfl) (by kernel_rfl) (by kernel_rfl) (fun _ _ _ h=>h) (Or.inr ⟨by rfl,rfl⟩) hHeld ?_
     simp only[Act.put,ps0]
     refine wpAnyH_take (i:=12) (v:=undef) rfl (by kernel_rfl) (by kernel_rfl) (by kernel_rfl) (fun _ _ _ h=>h) (Or.inr ⟨by rfl,rfl⟩) hHeld ?_
     simp only[Act.put,ps0]
     refine tkH 13 ?_; simp only[Act.put,ps0]
     refine tkH 14 ?_; simp only[Act.put,ps0]
     refine wpAnyH_take (i:=15) (v:=undef) rfl (by kernel_rfl) (by kernel_rfl) (by kernel_rfl) (fun _ _ _ h=>h) (Or.inr ⟨by rfl,rfl⟩) hHeld ?_
     simp only[Act.put,ps0]
     refine wpAnyH_take (i:=16) (v:=undef) rfl (by kernel_rfl) (by kernel_rfl) (by kernel_rfl) (fun _ _ _ h=>h) (Or.inr ⟨by rfl,rfl⟩) hHeld ?_
     simp only[Act.put,ps0]
     refine wpAnyH_take (i:=17) (v:=undef) rfl (by kernel_rfl) (by kernel_rfl) (by kernel_rfl) (fun _ _ _ h=>h) (Or.inr ⟨by rfl,rfl⟩) hHeld ?_
     simp only[Act.put,ps0]
     refine wpAnyH_take (i:=18) (v:=undef) rfl (by kernel_rfl) (by kernel_rfl) (by kernel_rfl) (fun _ _ _ h=>h) (Or.inr ⟨by rfl,rfl⟩) hHeld ?_
     simp only[Act.put,ps0]
     refine wpAnyH_take (i:=19) (v:=undef) rfl (by kernel_rfl) (by kernel_rfl) (by kernel_rfl) (fun _ _ _ h=>h) (Or.inr ⟨by rfl,rfl⟩) hHeld ?_
     simp only[Act.put,ps0]
     refine wpAnyH_take (i:=20) (v:=undef) rfl (by kernel_rfl) (by kernel_rfl) (by kernel_rfl) (fun _ _ _ h=>h) (Or.inr ⟨by rfl,rfl⟩) hHeld ?_
     simp only[Act.put,ps0]
     refine tkH 21 ?_; simp only[Act.put,ps0]
     refine wpAnyH_done (by kernel_rfl) ?_ _
     go_wp2
     first | exact HBad.out _ (blN HB0.out (blD HB4.out)) | (go_ret3; exact HBad.out _ (blN HB0.out (blD HB4.out)))
   ·have qz:((k:Int) == Z)=false:=beq_eq_false_iff_ne.2 hz
    have hh:(if(k:Int)=Sp.Geom.size ⟨ga,gb,gc⟩∧x=[] then((some [],0):Option (List ByteArray)×Nat) else(none,k+1))=(none,k+1):=if_neg fun h=>hz (h.1.trans HGs.out)
    have HBad:=zh (hbad hh)
    have HCU:=zh hcu
    clear hcu
    clear hh hz hp hbad hX hb hx hc hdr hget hkm hxl
    go_wp2_with fail
    refine(HG0.out _).mono ?_
    rintro e w3 ⟨rfl,hb3⟩
    have HB3:=zh (blN HB.out hb3)
    clear hb3
    go_wp2_with fail
    refine(HCU.out _ (blN HB0.out HB3.out)).mono ?_
    rintro e w4 ⟨v4,rfl,hv4,hb4⟩
    have HB4:=zh (blN HB3.out hb4)
    obtain⟨ad4,N4,cap4,rfl,HN4,hn4,HF4⟩:=texts_facts hv4
    clear hb4 hv4 c0 z0 z1 z2
    go_wp2_with fail
    refine wp_region_held_drew (S:=(fun _=>True)) (by kernel_rfl) (by first | trivial | assumption) (fun hHeld=>?_)
    refine tkH 0 ?_; simp only[Act.put,ps0]
    refine tkH 1 ?_; simp only[Act.put,ps0]
    refine tkH 2 ?_; simp only[Act.put,ps0]
    refine tkH 3 ?_; simp only[Act.put,ps0]
    refine wpAnyH_take (i:=4) (v:=undef) rfl (by kernel_rfl) (by kernel_rfl) (by kernel_rfl) (fun _ _ _ h=>h) (Or.inr ⟨by rfl,rfl⟩) hHeld ?_
    simp only[Act.put,ps0]
    refine wpAnyH_take (i:=5) (v:=undef) rfl (by kernel_rfl) (by kernel_rfl) (by kernel_rfl) (fun _ _ _ h=>h) (Or.inr ⟨by rfl,rfl⟩) hHeld ?_
    simp only[Act.put,ps0]
    refine wpAnyH_take (i:=6) (v:=undef) rfl (by kernel_rfl) (by kernel_rfl) (by kernel_rfl) (fun _ _ _ h=>h) (Or.inr ⟨by rfl,rfl⟩) hHeld ?_
    simp only[Act.put,ps0]
    refine wpAnyH_take (i:=7) (v:=undef) rfl (by kernel_rfl) (by kernel_rfl) (by kernel_rfl) (fun _ _ _ h=>h) (Or.inr ⟨by rfl,rfl⟩) hHeld ?_
    simp only[Act.put,ps0]
    refine tkH 8 ?_; simp only[Act.put,ps0]
    refine tkH 9 ?_; simp only[Act.put,ps0]
    refine wpAnyH_take (i:=10) (v:=undef) rfl (by kernel_rfl) (by kernel_rfl) (by kernel_rfl) (fun _ _ _ h=>h) (Or.inr ⟨by rfl,rfl⟩) hHeld ?_
    simp only[Act.put,ps0]
    refine wpAnyH_take (i:=11) (v:=undef) rfl (by kernel_rfl) (by kernel_rfl) (by kernel_rfl) (fun _ _ _ h=>h) (Or.inr ⟨by rfl,rfl⟩) hHeld ?_
    simp only[Act.put,ps0]
    refine wpAnyH_take (i:=12) (v:=undef) rfl (by kernel_rfl) (by kernel_rfl) (by kernel_rfl) (fun _ _ _ h=>h) (Or.inr ⟨by rfl,rfl⟩) hHeld ?_
    simp only[Act.put,ps0]
    refine tkH 13 ?_; simp only[Act.put,ps0]
    refine tkH 14 ?_; simp only[Act.put,ps0]
    refine wpAnyH_take (i:=15) (v:=undef) rfl (by kernel_rfl) (by kernel_rfl) (by kernel_rfl) (fun _ _ _ h=>h) (Or.inr ⟨by rfl,rfl⟩) hHeld ?_
    simp only[Act.put,ps0]
    refine wpAnyH_take (i:=16) (v:=undef) rfl (by kernel_rfl) (by kernel_rfl) (by kernel_rfl) (fun _ _ _ h=>h) (Or.inr ⟨by rfl,rfl⟩) hHeld ?_
    simp only[Act.put,ps0]
    refine wpAnyH_take (i:=17) (v:=undef) rfl (by kernel_rfl) (by kernel_rfl) (by kernel_rfl) (fun _ _ _ h=>h) (Or.inr ⟨by rfl,rfl⟩) hHeld ?_
    simp only[Act.put,ps0]
    refine wpAnyH_take (i:=18) (v:=undef) rfl (by kernel_rfl) (by kernel_rfl) (by kernel_rfl) (fun _ _ _ h=>h) (Or.inr ⟨by rfl,rfl⟩) hHeld ?_
    simp only[Act.put,ps0]
    refine wpAnyH_take (i:=19) (v:=undef) rfl (by kernel_rfl) (by kernel_rfl) (by kernel_rfl) (fun _ _ _ h=>h) (Or.inr ⟨by rfl,rfl⟩) hHeld ?_
    simp only[Act.put,ps0]
    refine wpAnyH_take (i:=20) (v:=undef) rfl (by kernel_rfl) (by kernel_rfl) (by kernel_rfl) (fun _ _ _ h=>h) (Or.inr ⟨by rfl,rfl⟩) hHeld ?_
    simp only[Act.put,ps0]
    refine tkH 21 ?_; simp only[Act.put,ps0]
    refine wpAnyH_done (by kernel_rfl) ?_ _
    go_wp2
    first | exact HBad.out _ (blN HB0.out (blD HB4.out)) | (go_ret3; exact HBad.out _ (blN HB0.out (blD HB4.out)))
   --]
  have hr:r≠[]:=hkm.1 (by have:=HNM.out; omega)
  have qm:((k:Int) == (m:Int))=false:=beq_eq_false_iff_ne.2 (by omega)
  clear hkm
  go_wp2_with fail
  refine(hcu _ (blN HB0.out HB.out)).mono ?_
  rintro e w4 ⟨v4,rfl,hv4,hb4⟩
  have HB4:=zh (blN HB.out hb4)
  have HO4:=zh (OwnR.below HO.out hb4)
  have HBx4:=zh (blN HBx.out hb4)
  have HK4:Hid (∀W,Below w4.heap.size w4 W→W.cell? ⟨w.heap.size,0,none⟩=some (.int .i64 ga)∧W.cell? ⟨w.heap.size,1,none⟩=some (.int .i64 gb)∧W.cell? ⟨w.heap.size,2,none⟩=some (.int .i64 gc)):=fun W h=>HK.out W (blN HB4.out h)
  have HBw4:=zh (blN HB0.out HB4.out)
  clear c0 z0 z1 z2 hb4 hcu
  obtain⟨z0,z1,z2⟩:=HK4.out w4 (Below.refl _ _)
  by_cases hZ:Z≤(k:Int)
  ·--[
   have HBad:=zh (hbad (loadFrom_big hr (by rw[HGs.out]; exact hZ)))
   obtain⟨ad4,N4,cap4,rfl,HN4,hn4,HF4⟩:=texts_facts hv4
   have qz:decide ((k:Int)≥Z)=true:=decide_eq_true hZ
   clear hZ hr hp hbad hX hb hx hc hdr hget hxl hv4 qe
   go_wp2_with fail
   refine wp_region_held_drew (S:=(fun W=>W.cell? ⟨w.heap.size,0,none⟩=some (.int .i64 ga)∧W.cell? ⟨w.heap.size,1,none⟩=some (.int .i64 gb)∧W.cell? ⟨w.heap.size,2,none⟩=some (.int .i64 gc))) (by kernel_rfl) (by first | trivial | assumption) (fun hHeld=>?_)
   refine tkH 0 ?_; simp only[Act.put,ps0]
   refine tkH 1 ?_; simp only[Act.put,ps0]
   refine tkH 2 ?_; simp only[Act.put,ps0]
   refine tkH 3 ?_; simp only[Act.put,ps0]
   refine tkH 4 ?_; simp only[Act.put,ps0]
   refine tkH 5 ?_; simp only[Act.put,ps0]
   refine wpAnyH_ready (rs:=[6]) (by kernel_rfl) (by simp) ?_
   refine AllReadyH.cons rfl (fun K hK=>?_) AllReadyH.nil
   try simp only[gg0]
   go_simp
   refine(HG0.out _).mono ?_
   rintro e w5 ⟨rfl,hb5⟩
   have HB5:Hid (Below w4.heap.size w4 w5):=blN (blD (Below.refl _ _)) hb5
   clear hb5
   try simp only
   refine hK.out _ _ ?hkS (fun hHeld=>?_)
   case hkS=>
    exact HK4.out _ HB5.out
   clear hK K
   try simp only[Act.put,ps0]
   refine tkH 7 ?_; simp only[Act.put,ps0]
   refine tkH 8 ?_; simp only[Act.put,ps0]
   refine tkH 9 ?_; simp only[Act.put,ps0]
   refine wpAnyH_take (i:=10) (v:=undef) rfl (by kernel_rfl) (by kernel_rfl) (by kernel_rfl) (fun _ _ _ h=>h) (Or.inr ⟨by rfl,rfl⟩) hHeld ?_
   simp only[Act.put,ps0]
   refine wpAnyH_take (i:=11) (v:=undef) rfl (by kernel_rfl) (by kernel_rfl) (by kernel_rfl) (fun _ _ _ h=>h) (Or.inr ⟨by rfl,rfl⟩) hHeld ?_
   simp only[Act.put,ps0]
   refine wpAnyH_take (i:=12) (v:=undef) rfl (by kernel_rfl) (by kernel_rfl) (by kernel_rfl) (fun _ _ _ h=>h) (Or.inr ⟨by rfl,rfl⟩) hHeld ?_
   simp only[Act.put,ps0]
   refine tkH 13 ?_; simp only[Act.put,ps0]
   refine tkH 14 ?_; simp only[Act.put,ps0]
   refine wpAnyH_take (i:=15) (v:=undef) rfl (by kernel_rfl) (by kernel_rfl) (by kernel_rfl) (fun _ _ _ h=>h) (Or.inr ⟨by rfl,rfl⟩) hHeld ?_
   simp only[Act.put,ps0]
   refine wpAnyH_take (i:=16) (v:=undef) rfl (by kernel_rfl) (by kernel_rfl) (by kernel_rfl) (fun _ _ _ h=>h) (Or.inr ⟨by rfl,rfl⟩) hHeld ?_
   simp only[Act.put,ps0]
   refine wpAnyH_take (i:=17) (v:=undef) rfl (by kernel_rfl) (by kernel_rfl) (by kernel_rfl) (fun _ _ _ h=>h) (Or.inr ⟨by rfl,rfl⟩) hHeld ?_
   simp only[Act.put,ps0]
   refine wpAnyH_take (i:=18) (v:=undef) rfl (by kernel_rfl) (by kernel_rfl) (by kernel_rfl) (fun _ _ _ h=>h) (Or.inr ⟨by rfl,rfl⟩) hHeld ?_
   simp only[Act.put,ps0]
   refine wpAnyH_take (i:=19) (v:=undef) rfl (by kernel_rfl) (by kernel_rfl) (by kernel_rfl) (fun _ _ _ h=>h) (Or.inr ⟨by rfl,rfl⟩) hHeld ?_
   simp only[Act.put,ps0]
   refine wpAnyH_take (i:=20) (v:=undef) rfl (by kernel_rfl) (by kernel_rfl) (by kernel_rfl) (fun _ _ _ h=>h) (Or.inr ⟨by rfl,rfl⟩) hHeld ?_
   simp only[Act.put,ps0]
   refine tkH 21 ?_; simp only[Act.put,ps0]
   refine wpAnyH_done (by kernel_rfl) ?_ _
   go_wp2
   first | exact HBad.out _ (blN HBw4.out HB5.out) | (go_ret3; exact HBad.out _ (blN HBw4.out HB5.out)) | exact HBad.out _ (blN HBw4.out (blD HB5.out)) | (go_ret3; exact HBad.out _ (blN HBw4.out (blD HB5.out)))
   --]
  have qz:decide ((k:Int)≥Z)=false:=decide_eq_false hZ
  have hws:=q40z (c0:=32) x
  have hwsz:=fun y hy=>HWSZ.out x y hxl hy
  have hwn:=HWN.out x hxl
  obtain⟨ws,hwx⟩:=zx (cutAt 32 x)
  rw[hwx] at hv4 hws hwsz hwn
  have hbadL:=fun h=>hbad (loadFrom_line_no hr h)
  cases ws with
  | nil=>exact absurd rfl hws
  | cons w1 r1=>
    obtain⟨bb,oo,cap4,hvv,h1,h2,hbb,hcw⟩:=hv4.open_ne (by simp)
    obtain⟨N4,hN4⟩:=zx (((w1 :: r1).map ofL).length)
    rw[hN4] at hvv h1
    have hN5:N4=r1.length+1:=by rw[←hN4]; simp
    subst hvv
    cases r1 with
    | nil=>
      --[
      have HBad:=zh (hbadL (lineP_none_word hwx (by simp)))
      have hN6:N4=1:=hN5
      subst hN6
      clear hN5 hN4 hcw hbb h2 h1 hbadL hwx hwn hwsz hws hZ hr hp hbad hX hb hx hc hdr hget hxl hv4 qe
      go_wp2_with fail
      refine wp_region_held_drew (S:=(fun W=>W.cell? ⟨w.heap.size,0,none⟩=some (.int .i64 ga)∧W.cell? ⟨w.heap.size,1,none⟩=some (.int .i64 gb)∧W.cell? ⟨w.heap.size,2,none⟩=some (.int .i64 gc))) (by kernel_rfl) (by first | trivial | assumption) (fun hHeld=>?_)
      refine tkH 0 ?_; simp only[Act.put,ps0]
      refine tkH 1 ?_; simp only[Act.put,ps0]
      refine tkH 2 ?_; simp only[Act.put,ps0]
      refine tkH 3 ?_; simp only[Act.put,ps0]
      refine tkH 4 ?_; simp only[Act.put,ps0]
      refine tkH 5 ?_; simp only[Act.put,ps0]
      refine wpAnyH_ready (rs:=[6]) (by kernel_rfl) (by simp) ?_
      refine AllReadyH.cons rfl (fun K hK=>?_) AllReadyH.nil
      try simp only[gg0]
      go_simp
      refine(HG0.out _).mono ?_
      rintro e w5 ⟨rfl,hb5⟩
      have HB5:Hid (Below w4.heap.size w4 w5):=blN (blD (Below.refl _ _)) hb5
      clear hb5
      try simp only
      refine hK.out _ _ ?hkS (fun hHeld=>?_)
      case hkS=>
       exact HK4.out _ HB5.out
      clear hK K
      try simp only[Act.put,ps0]
      refine tkH 7 ?_; simp only[Act.put,ps0]
      refine tkH 8 ?_; simp only[Act.put,ps0]
      refine tkH 9 ?_; simp only[Act.put,ps0]
      refine tkH 10 ?_; simp only[Act.put,ps0]
      refine tkH 11 ?_; simp only[Act.put,ps0]
      refine tkH 12 ?_; simp only[Act.put,ps0]
      refine tkH 13 ?_; simp only[Act.put,ps0]
      refine tkH 14 ?_; simp only[Act.put,ps0]
      refine wpAnyH_take (i:=15) (v:=undef) rfl (by kernel_rfl) (by kernel_rfl) (by kernel_rfl) (fun _ _ _ h=>h) (Or.inr ⟨by rfl,rfl⟩) hHeld ?_
      simp only[Act.put,ps0]
      refine wpAnyH_take (i:=16) (v:=undef) rfl (by kernel_rfl) (by kernel_rfl) (by kernel_rfl) (fun _ _ _ h=>h) (Or.inr ⟨by rfl,rfl⟩) hHeld ?_
      simp only[Act.put,ps0]
      refine wpAnyH_take (i:=17) (v:=undef) rfl (by kernel_rfl) (by kernel_rfl) (by kernel_rfl) (fun _ _ _ h=>h) (Or.inr ⟨by rfl,rfl⟩) hHeld ?_
      simp only[Act.put,ps0]
      refine wpAnyH_take (i:=18) (v:=undef) rfl (by kernel_rfl) (by kernel_rfl) (by kernel_rfl) (fun _ _ _ h=>h) (Or.inr ⟨by rfl,rfl⟩) hHeld ?_
      simp only[Act.put,ps0]
      refine wpAnyH_take (i:=19) (v:=undef) rfl (by kernel_rfl) (by kernel_rfl) (by kernel_rfl) (fun _ _ _ h=>h) (Or.inr ⟨by rfl,rfl⟩) hHeld ?_
      simp only[Act.put,ps0]
      refine wpAnyH_take (i:=20) (v:=undef) rfl (by kernel_rfl) (by kernel_rfl) (by kernel_rfl) (fun _ _ _ h=>h) (Or.inr ⟨by rfl,rfl⟩) hHeld ?_
      simp only[Act.put,ps0]
      refine tkH 21 ?_; simp only[Act.put,ps0]
      refine wpAnyH_done (by kernel_rfl) ?_ _
      go_wp2
      first | exact HBad.out _ (blN HBw4.out HB5.out) | (go_ret3; exact HBad.out _ (blN HBw4.out HB5.out)) | exact HBad.out _ (blN HBw4.out (blD HB5.out)) | (go_ret3; exact HBad.out _ (blN HBw4.out (blD HB5.out)))
      --]
    | cons w2' r2=>
      have hcap:¬cap4=1:=by simp only[List.length_cons] at hN5; omega
      have hN4i:(1:Int)≤(N4:Int):=by omega
      have hN4n:1≤N4:=by omega
      have hN4p:0<N4:=by omega
      have qn:decide ((N4:Int)<2)=false:=decide_eq_false (by simp only[List.length_cons] at hN5; omega)
      have hcw0:w4.cell? ⟨bb,oo,none⟩=some (.string (ofL w1)):=hcw 0 _ rfl
      have hrest:Texts w4 (.slice (some ⟨bb,oo+1,none⟩) (N4-1) (cap4-1)) ((w2' :: r2).map ofL):=Texts.rest (x:=ofL w1) (by rw[List.length_map]; omega) (by omega) h2 hbb (fun j y hy=>hcw j y hy) rfl
      have HSE:Hid (∀W,Below w4.heap.size w4 W→Calls Tryz.prog 17 #[.agg #[.int .i64 ga,.int .i64 gb,.int .i64 gc],.int .i64 (k:Int),.slice (some ⟨bb,oo+1,none⟩) (N4-1) (cap4-1)] W (q1z (readP ⟨ga,gb,gc⟩ (k:Int) (w2' :: r2)) W)):=fun W hW=>
       HSEC.out W k _ w2' r2 (by omega) (blN HBw4.out hW) (hrest.below hW) (fun y hy=>hwsz y (List.mem_cons_of_mem _ hy)) (by simp only[List.length_cons] at hwn ⊢; omega)
      have HNU:Hid (∀W,Below w4.heap.size w4 W→Calls Tryz.prog 16 #[.int .i64 (k:Int)] W fun e w'=>e = .returned (.string (ofL (digitsL k)))∧Below W.heap.size W w'):=fun W hW=>
       HNUM.out W k (by have:=HSZ.out; omega) (blN HBw4.out hW)
      have HLI:Hid (∀(W:World) (s:ByteArray),s.size=64→Below w4.heap.size w4 W→Calls Tryz.prog 18 #[.agg #[.int .i64 ga,.int .i64 gb,.int .i64 gc],.int .i64 (k:Int),.string s] W fun e w'=>e = .returned (.string (ofL (lineL ⟨ga,gb,gc⟩ k s)))∧Below W.heap.size W w'):=fun W s hs hW=>
       HLINE.out W k s (by omega) hs (blN HBw4.out hW)
      have f1:=list_eq (ofL w1) (ofL (digitsL k))
      have hinj:ofL w1=ofL (digitsL k)↔w1=digitsL k:=⟨fun h=>ofL_inj h,fun h=>by rw[h]⟩
      have HCW:Hid (∀W,Below w4.heap.size w4 W→W.cell? ⟨bb,oo,none⟩=some (.string (ofL w1))):=fun W hW=>(hW.cell (p:=⟨bb,oo,none⟩) hbb).trans hcw0
      obtain⟨W1,hW1⟩:=zx (ofL w1)
      obtain⟨DK,hDK⟩:=zx (ofL (digitsL k))
      rw[hW1] at HCW f1 hinj
      rw[hDK] at f1 hinj HNU
      by_cases hwd:w1=digitsL k
      rotate_left
      ·--[
       have HBad:=zh (hbadL (lineP_none_num hwx hwd))
       rw[decide_eq_false (fun h=>hwd (hinj.1 h))] at f1
       clear hW1 hDK hwd hinj hcw0 hrest hN5 hN4 hcw hbb h2 h1 hbadL hwx hwn hwsz hws hZ hr hp hbad hX hb hx hc hdr hget hxl hv4 qe
       have cw:=HCW.out w4 (Below.refl _ _)
       go_wp2_with fail
       refine wp_region_held_drew (S:=(fun W=>W.cell? ⟨bb,oo,none⟩=some (.string W1)∧W.cell? ⟨w.heap.size,0,none⟩=some (.int .i64 ga)∧W.cell? ⟨w.heap.size,1,none⟩=some (.int .i64 gb)∧W.cell? ⟨w.heap.size,2,none⟩=some (.int .i64 gc))) (by kernel_rfl) (by first | trivial | assumption) (fun hHeld=>?_)
       refine tkH 0 ?_; simp only[Act.put,ps0]
       refine tkH 1 ?_; simp only[Act.put,ps0]
       refine tkH 2 ?_; simp only[Act.put,ps0]
       refine tkH 3 ?_; simp only[Act.put,ps0]
       refine tkH 4 ?_; simp only[Act.put,ps0]
       refine tkH 5 ?_; simp only[Act.put,ps0]
       refine wpAnyH_ready (rs:=[6]) (by kernel_rfl) (by simp) ?_
       refine AllReadyH.cons rfl (fun K hK=>?_) AllReadyH.nil
       try simp only[gg0]
       go_simp
       refine(HG0.out _).mono ?_
       rintro e w5 ⟨rfl,hb5⟩
       have HB5:Hid (Below w4.heap.size w4 w5):=blN (blD (Below.refl _ _)) hb5
       clear hb5
       try simp only
       refine hK.out _ _ ?hkS (fun hHeld=>?_)
       case hkS=>
        exact⟨HCW.out _ HB5.out,HK4.out _ HB5.out⟩
       clear hK K
       try simp only[Act.put,ps0]
       refine tkH 7 ?_; simp only[Act.put,ps0]
       refine tkH 8 ?_; simp only[Act.put,ps0]
       refine tkH 9 ?_; simp only[Act.put,ps0]
       refine tkH 10 ?_; simp only[Act.put,ps0]
       refine tkH 11 ?_; simp only[Act.put,ps0]
       refine tkH 12 ?_; simp only[Act.put,ps0]
       refine tkH 13 ?_; simp only[Act.put,ps0]
       refine tkH 14 ?_; simp only[Act.put,ps0]
       refine tkH 15 ?_; simp only[Act.put,ps0]
       refine tkH 16 ?_; simp only[Act.put,ps0]
       refine tkH 17 ?_; simp only[Act.put,ps0]
       refine tkH 18 ?_; simp only[Act.put,ps0]
       refine wpAnyH_ready (rs:=[19]) (by kernel_rfl) (by simp) ?_
       refine AllReadyH.cons rfl (fun K hK=>?_) AllReadyH.nil
       try simp only[gg0]
       go_simp
       refine(HNU.out _ HB5.out).mono ?_
       rintro e w6 ⟨rfl,hb6⟩
       have HB6:Hid (Below w4.heap.size w4 w6):=blN HB5.out hb6
       clear hb6
       try simp only
       refine hK.out _ _ ?hkS (fun hHeld=>?_)
       case hkS=>
        exact⟨HCW.out _ HB6.out,HK4.out _ HB6.out⟩
       clear hK K
       try simp only[Act.put,ps0]
       refine tkH 20 ?_; simp only[Act.put,ps0]
       refine tkH 21 ?_; simp only[Act.put,ps0]
       refine wpAnyH_done (by kernel_rfl) ?_ _
       have HB5:=HB6
       go_wp2
       first | exact HBad.out _ (blN HBw4.out HB5.out) | (go_ret3; exact HBad.out _ (blN HBw4.out HB5.out)) | exact HBad.out _ (blN HBw4.out (blD HB5.out)) | (go_ret3; exact HBad.out _ (blN HBw4.out (blD HB5.out)))
       --]
      rw[decide_eq_true (hinj.2 hwd)] at f1
      cases hrd:readP ⟨ga,gb,gc⟩ (k:Int) (w2' :: r2) with
      | none=>
        --[
        have HBad:=zh (hbadL (lineP_none_read hwx hrd))
        rw[hrd] at HSE
        clear hrd hW1 hDK hwd hinj hcw0 hrest hN5 hN4 hcw hbb h2 h1 hbadL hwx hwn hwsz hws hZ hr hp hbad hX hb hx hc hdr hget hxl hv4 qe
        have cw:=HCW.out w4 (Below.refl _ _)
        go_wp2_with fail
        refine wp_region_held_drew (S:=(fun W=>W.cell? ⟨bb,oo,none⟩=some (.string W1)∧W.cell? ⟨w.heap.size,0,none⟩=some (.int .i64 ga)∧W.cell? ⟨w.heap.size,1,none⟩=some (.int .i64 gb)∧W.cell? ⟨w.heap.size,2,none⟩=some (.int .i64 gc))) (by kernel_rfl) (by first | trivial | assumption) (fun hHeld=>?_)
        refine tkH 0 ?_; simp only[Act.put,ps0]
        refine tkH 1 ?_; simp only[Act.put,ps0]
        refine tkH 2 ?_; simp only[Act.put,ps0]
        refine tkH 3 ?_; simp only[Act.put,ps0]
        refine tkH 4 ?_; simp only[Act.put,ps0]
        refine tkH 5 ?_; simp only[Act.put,ps0]
        refine wpAnyH_ready (rs:=[6]) (by kernel_rfl) (by simp) ?_
        refine AllReadyH.cons rfl (fun K hK=>?_) AllReadyH.nil
        try simp only[gg0]
        go_simp
        refine(HG0.out _).mono ?_
        rintro e w5 ⟨rfl,hb5⟩
        have HB5:Hid (Below w4.heap.size w4 w5):=blN (blD (Below.refl _ _)) hb5
        clear hb5
        try simp only
        refine hK.out _ _ ?hkS (fun hHeld=>?_)
        case hkS=>
         exact⟨HCW.out _ HB5.out,HK4.out _ HB5.out⟩
        clear hK K
        try simp only[Act.put,ps0]
        refine tkH 7 ?_; simp only[Act.put,ps0]
        refine tkH 8 ?_; simp only[Act.put,ps0]
        refine tkH 9 ?_; simp only[Act.put,ps0]
        refine tkH 10 ?_; simp only[Act.put,ps0]
        refine tkH 11 ?_; simp only[Act.put,ps0]
        refine tkH 12 ?_; simp only[Act.put,ps0]
        refine tkH 13 ?_; simp only[Act.put,ps0]
        refine tkH 14 ?_; simp only[Act.put,ps0]
        refine tkH 15 ?_; simp only[Act.put,ps0]
        refine tkH 16 ?_; simp only[Act.put,ps0]
        refine tkH 17 ?_; simp only[Act.put,ps0]
        refine tkH 18 ?_; simp only[Act.put,ps0]
        refine wpAnyH_ready (rs:=[19]) (by kernel_rfl) (by simp) ?_
        refine AllReadyH.cons rfl (fun K hK=>?_) AllReadyH.nil
        try simp only[gg0]
        go_simp
        refine(HNU.out _ HB5.out).mono ?_
        rintro e w6 ⟨rfl,hb6⟩
        have HB6:Hid (Below w4.heap.size w4 w6):=blN HB5.out hb6
        clear hb6
        try simp only
        refine hK.out _ _ ?hkS (fun hHeld=>?_)
        case hkS=>
         exact⟨HCW.out _ HB6.out,HK4.out _ HB6.out⟩
        clear hK K
        try simp only[Act.put,ps0]
        refine tkH 20 ?_; simp only[Act.put,ps0]
        refine tkH 21 ?_; simp only[Act.put,ps0]
        refine wpAnyH_done (by kernel_rfl) ?_ _
        clear cw f1 hHeld
        go_wp2_with fail
        go_region_held3 (fun W=>W.cell? ⟨w.heap.size,0,none⟩=some (.int .i64 ga)∧W.cell? ⟨w.heap.size,1,none⟩=some (.int .i64 gb)∧W.cell? ⟨w.heap.size,2,none⟩=some (.int .i64 gc))
         ((refine HK4.out _ ?_; repeat' first | with_reducible exact Below.refl _ _ | with_reducible exact HB6.out | with_reducible exact HB7.out | with_reducible refine blD ?_))
         (first
           | (go_at_call 17
              with_reducible refine(HSE.out _ ?a1).mono ?_
              case a1=>exact(by repeat' first | with_reducible exact Below.refl _ _ | with_reducible exact HB6.out | with_reducible exact HB7.out | with_reducible refine blD ?_)
              rintro e w7 hr
              have HB7:Hid (Below w4.heap.size w4 w7):=blN (by repeat' first | with_reducible exact Below.refl _ _ | with_reducible exact HB6.out | with_reducible exact HB7.out | with_reducible refine blD ?_) hr.below
              obtain⟨T,rfl,hT,h3⟩:=hr
              have HT:=zh hT
              clear hT h3
              simp only))
        all_goals
         have HB5:=HB7
         go_wp2
         first | exact HBad.out _ (blN HBw4.out HB5.out) | (go_ret3; exact HBad.out _ (blN HBw4.out HB5.out)) | exact HBad.out _ (blN HBw4.out (blD HB5.out)) | (go_ret3; exact HBad.out _ (blN HBw4.out (blD HB5.out)))
        --]
      | some s=>
        have h64:s.size=64:=readP_size hrd
        rw[hrd] at HSE
        have hLI:=fun(W:World) (hW:Below w4.heap.size w4 W)=>HLI.out W s h64 hW
        have f3:=list_eq (ofL (lineL ⟨ga,gb,gc⟩ (k:Int) s)) X
        have hinj2:ofL (lineL ⟨ga,gb,gc⟩ (k:Int) s)=X↔lineL ⟨ga,gb,gc⟩ (k:Int) s=x:=by rw[←hX]; exact⟨fun h=>ofL_inj h,fun h=>by rw[h]⟩
        obtain⟨LX,hLX⟩:=zx (ofL (lineL ⟨ga,gb,gc⟩ (k:Int) s))
        rw[hLX] at hinj2 f3
        simp only[hLX] at hLI
        have HLi:=zh hLI
        clear hLI HLI hLX
        by_cases hl:lineL ⟨ga,gb,gc⟩ (k:Int) s=x
        rotate_left
        ·--[
         have HBad:=zh (hbadL (lineP_none_line hwx hrd hl))
         rw[decide_eq_false (fun h=>hl (hinj2.1 h))] at f3
         clear hl hinj2 hrd hW1 hDK hwd hinj hcw0 hrest hN5 hN4 hcw hbb h2 h1 hbadL hwx hwn hwsz hws hZ hr hp hbad hX hb hx hc hdr hget hxl hv4 qe
         have cw:=HCW.out w4 (Below.refl _ _)
         go_wp2_with fail
         refine wp_region_held_drew (S:=(fun W=>W.cell? ⟨bb,oo,none⟩=some (.string W1)∧W.cell? ⟨w.heap.size,0,none⟩=some (.int .i64 ga)∧W.cell? ⟨w.heap.size,1,none⟩=some (.int .i64 gb)∧W.cell? ⟨w.heap.size,2,none⟩=some (.int .i64 gc))) (by kernel_rfl) (by first | trivial | assumption) (fun hHeld=>?_)
         refine tkH 0 ?_; simp only[Act.put,ps0]
         refine tkH 1 ?_; simp only[Act.put,ps0]
         refine tkH 2 ?_; simp only[Act.put,ps0]
         refine tkH 3 ?_; simp only[Act.put,ps0]
         refine tkH 4 ?_; simp only[Act.put,ps0]
         refine tkH 5 ?_; simp only[Act.put,ps0]
         refine wpAnyH_ready (rs:=[6]) (by kernel_rfl) (by simp) ?_
         refine AllReadyH.cons rfl (fun K hK=>?_) AllReadyH.nil
         try simp only[gg0]
         go_simp
         refine(HG0.out _).mono ?_
         rintro e w5 ⟨rfl,hb5⟩
         have HB5:Hid (Below w4.heap.size w4 w5):=blN (blD (Below.refl _ _)) hb5
         clear hb5
         try simp only
         refine hK.out _ _ ?hkS (fun hHeld=>?_)
         case hkS=>
          exact⟨HCW.out _ HB5.out,HK4.out _ HB5.out⟩
         clear hK K
         try simp only[Act.put,ps0]
         refine tkH 7 ?_; simp only[Act.put,ps0]
         refine tkH 8 ?_; simp only[Act.put,ps0]
         refine tkH 9 ?_; simp only[Act.put,ps0]
         refine tkH 10 ?_; simp only[Act.put,ps0]
         refine tkH 11 ?_; simp only[Act.put,ps0]
         refine tkH 12 ?_; simp only[Act.put,ps0]
         refine tkH 13 ?_; simp only[Act.put,ps0]
         refine tkH 14 ?_; simp only[Act.put,ps0]
         refine tkH 15 ?_; simp only[Act.put,ps0]
         refine tkH 16 ?_; simp only[Act.put,ps0]
         refine tkH 17 ?_; simp only[Act.put,ps0]
         refine tkH 18 ?_; simp only[Act.put,ps0]
         refine wpAnyH_ready (rs:=[19]) (by kernel_rfl) (by simp) ?_
         refine AllReadyH.cons rfl (fun K hK=>?_) AllReadyH.nil
         try simp only[gg0]
         go_simp
         refine(HNU.out _ HB5.out).mono ?_
         rintro e w6 ⟨rfl,hb6⟩
         have HB6:Hid (Below w4.heap.size w4 w6):=blN HB5.out hb6
         clear hb6
         try simp only
         refine hK.out _ _ ?hkS (fun hHeld=>?_)
         case hkS=>
          exact⟨HCW.out _ HB6.out,HK4.out _ HB6.out⟩
         clear hK K
         try simp only[Act.put,ps0]
         refine tkH 20 ?_; simp only[Act.put,ps0]
         refine tkH 21 ?_; simp only[Act.put,ps0]
         refine wpAnyH_done (by kernel_rfl) ?_ _
         clear cw f1 hHeld
         go_wp2_with fail
         go_region_held3 (fun W=>W.cell? ⟨w.heap.size,0,none⟩=some (.int .i64 ga)∧W.cell? ⟨w.heap.size,1,none⟩=some (.int .i64 gb)∧W.cell? ⟨w.heap.size,2,none⟩=some (.int .i64 gc))
          ((refine HK4.out _ ?_; repeat' first | with_reducible exact Below.refl _ _ | with_reducible exact HB6.out | with_reducible exact HB7.out | with_reducible refine blD ?_))
          (first
            | (go_at_call 17
               with_reducible refine(HSE.out _ ?a1).mono ?_
               case a1=>exact(by repeat' first | with_reducible exact Below.refl _ _ | with_reducible exact HB6.out | with_reducible exact HB7.out | with_reducible refine blD ?_)
               rintro e w7 hr
               have HB7:Hid (Below w4.heap.size w4 w7):=blN (by repeat' first | with_reducible exact Below.refl _ _ | with_reducible exact HB6.out | with_reducible exact HB7.out | with_reducible refine blD ?_) hr.below
               obtain⟨T,rfl,hT,h3⟩:=hr
               have HT:=zh hT
               clear hT h3
               simp only))
         all_goals
          have hTs:s=T:=(HT.out s rfl).symm
          subst hTs
          clear HT
          go_wp2_with fail
          refine(HLi.out _ (by repeat' first | with_reducible exact Below.refl _ _ | with_reducible exact HB6.out | with_reducible exact HB7.out | with_reducible refine blD ?_)).mono ?_
          rintro e w8 ⟨rfl,hb8⟩
          have HB8:Hid (Below w4.heap.size w4 w8):=blN (by repeat' first | with_reducible exact Below.refl _ _ | with_reducible exact HB6.out | with_reducible exact HB7.out | with_reducible refine blD ?_) hb8
          clear hb8
         all_goals
          have HB5:=HB8
          go_wp2
          first | exact HBad.out _ (blN HBw4.out HB5.out) | (go_ret3; exact HBad.out _ (blN HBw4.out HB5.out)) | exact HBad.out _ (blN HBw4.out (blD HB5.out)) | (go_ret3; exact HBad.out _ (blN HBw4.out (blD HB5.out)))
         --]
        rw[decide_eq_true (hinj2.2 hl)] at f3
        have HP2:Hid (q5z ⟨ga,gb,gc⟩ 0 L=preL (acc ++ [s]) (q5z ⟨ga,gb,gc⟩ (k+1) (L.drop (k+1)))):=by
         have hd:L.drop (k+1)=r:=by rw[←List.drop_drop,hdr]; rfl
         have hs:=lineP_yes hwx hwd hrd hl
         show _=_
         rw[hp,loadFrom_step hr (by rw[HGs.out]; exact hZ) hs,preL_snoc,hd]
        have hk2:k+1<N:=by have:=HNM.out; omega
        have hll:acc.length≤1000:=by have:=HA.out; have:=HSZ.out; omega
        have HA2:Hid ((acc ++ [s]).length=k+1∧((k+1:Nat):Int)≤Z):=⟨by rw[List.length_append,HA.out.1]; rfl,by omega⟩
        clear hl hinj2 hrd hW1 hDK hwd hinj hcw0 hrest hN5 hN4 hcw hbb h2 h1 hbadL hwx hwn hwsz hws hZ hr hp hbad hX hb hx hc hdr hget hxl hv4 qe
        have cw:=HCW.out w4 (Below.refl _ _)
        go_wp2_with fail
        refine wp_region_held_drew (S:=(fun W=>W.cell? ⟨bb,oo,none⟩=some (.string W1)∧W.cell? ⟨w.heap.size,0,none⟩=some (.int .i64 ga)∧W.cell? ⟨w.heap.size,1,none⟩=some (.int .i64 gb)∧W.cell? ⟨w.heap.size,2,none⟩=some (.int .i64 gc))) (by kernel_rfl) (by first | trivial | assumption) (fun hHeld=>?_)
        refine tkH 0 ?_; simp only[Act.put,ps0]
        refine tkH 1 ?_; simp only[Act.put,ps0]
        refine tkH 2 ?_; simp only[Act.put,ps0]
        refine tkH 3 ?_; simp only[Act.put,ps0]
        refine tkH 4 ?_; simp only[Act.put,ps0]
        refine tkH 5 ?_; simp only[Act.put,ps0]
        refine wpAnyH_ready (rs:=[6]) (by kernel_rfl) (by simp) ?_
        refine AllReadyH.cons rfl (fun K hK=>?_) AllReadyH.nil
        try simp only[gg0]
        go_simp
        refine(HG0.out _).mono ?_
        rintro e w5 ⟨rfl,hb5⟩
        have HB5:Hid (Below w4.heap.size w4 w5):=blN (blD (Below.refl _ _)) hb5
        clear hb5
        try simp only
        refine hK.out _ _ ?hkS (fun hHeld=>?_)
        case hkS=>
         exact⟨HCW.out _ HB5.out,HK4.out _ HB5.out⟩
        clear hK K
        try simp only[Act.put,ps0]
        refine tkH 7 ?_; simp only[Act.put,ps0]
        refine tkH 8 ?_; simp only[Act.put,ps0]
        refine tkH 9 ?_; simp only[Act.put,ps0]
        refine tkH 10 ?_; simp only[Act.put,ps0]
        refine tkH 11 ?_; simp only[Act.put,ps0]
        refine tkH 12 ?_; simp only[Act.put,ps0]
        refine tkH 13 ?_; simp only[Act.put,ps0]
        refine tkH 14 ?_; simp only[Act.put,ps0]
        refine tkH 15 ?_; simp only[Act.put,ps0]
        refine tkH 16 ?_; simp only[Act.put,ps0]
        refine tkH 17 ?_; simp only[Act.put,ps0]
        refine tkH 18 ?_; simp only[Act.put,ps0]
        refine wpAnyH_ready (rs:=[19]) (by kernel_rfl) (by simp) ?_
        refine AllReadyH.cons rfl (fun K hK=>?_) AllReadyH.nil
        try simp only[gg0]
        go_simp
        refine(HNU.out _ HB5.out).mono ?_
        rintro e w6 ⟨rfl,hb6⟩
        have HB6:Hid (Below w4.heap.size w4 w6):=blN HB5.out hb6
        clear hb6
        try simp only
        refine hK.out _ _ ?hkS (fun hHeld=>?_)
        case hkS=>
         exact⟨HCW.out _ HB6.out,HK4.out _ HB6.out⟩
        clear hK K
        try simp only[Act.put,ps0]
        refine tkH 20 ?_; simp only[Act.put,ps0]
        refine tkH 21 ?_; simp only[Act.put,ps0]
        refine wpAnyH_done (by kernel_rfl) ?_ _
        clear cw f1 hHeld
        go_wp2_with fail
        go_region_held3 (fun W=>W.cell? ⟨w.heap.size,0,none⟩=some (.int .i64 ga)∧W.cell? ⟨w.heap.size,1,none⟩=some (.int .i64 gb)∧W.cell? ⟨w.heap.size,2,none⟩=some (.int .i64 gc))
         ((refine HK4.out _ ?_; repeat' first | with_reducible exact Below.refl _ _ | with_reducible exact HB6.out | with_reducible exact HB7.out | with_reducible refine blD ?_))
         (first
           | (go_at_call 17
              with_reducible refine(HSE.out _ ?a1).mono ?_
              case a1=>exact(by repeat' first | with_reducible exact Below.refl _ _ | with_reducible exact HB6.out | with_reducible exact HB7.out | with_reducible refine blD ?_)
              rintro e w7 hr
              have HB7:Hid (Below w4.heap.size w4 w7):=blN (by repeat' first | with_reducible exact Below.refl _ _ | with_reducible exact HB6.out | with_reducible exact HB7.out | with_reducible refine blD ?_) hr.below
              obtain⟨T,rfl,hT,h3⟩:=hr
              have HT:=zh hT
              clear hT h3
              simp only))
        all_goals
         have hTs:s=T:=(HT.out s rfl).symm
         subst hTs
         clear HT
         go_wp2_with fail
         refine(HLi.out _ (by repeat' first | with_reducible exact Below.refl _ _ | with_reducible exact HB6.out | with_reducible exact HB7.out | with_reducible refine blD ?_)).mono ?_
         rintro e w8 ⟨rfl,hb8⟩
         have HB8:Hid (Below w4.heap.size w4 w8):=blN (by repeat' first | with_reducible exact Below.refl _ _ | with_reducible exact HB6.out | with_reducible exact HB7.out | with_reducible refine blD ?_) hb8
         clear hb8
        all_goals
         have HO8:=zh (OwnR.below HO4.out HB8.out)
         have HBx8:=zh (blN HBx4.out HB8.out)
         obtain⟨ia9,ib9,ic9,id9,ie9⟩:=info_parts Tryz.infoText
         have hrow9:=HO8.out
         unfold OwnR at hrow9
         have HRow9:=zh hrow9
         clear hrow9
         have HIb9:=zh ib9
         have HIc9:=zh ic9
         have HId9:=zh id9
         have HIe9:=zh ie9
         clear ib9 ic9 id9 ie9
         go_wp2_with (at_builtin; refine wpList_append_lies _ rfl _ _ _ rfl w2.heap.size 9 ia9 _ 1 16 Tryz.underlying25 HIb9.out HIc9.out HId9.out HIe9.out rfl (by decide) _ _ _ rfl (HRow9.out.alloc _) ⟨w8.heap.size,0,none⟩ 1 1 [.string s] rfl rfl (World.news_of_block (cs:=#[.string s]) (t:=9) (fr:=(0,0)) (heapNew w8 _)) (by simp[Value.oneCell']) (by omega) ?c1 ?c2 ?c3 (w8.heap.size+1) (by simp) ?_)
         case c1=>unfold maxLen; omega
         case c2=>omega
         case c3=>have:=HBx8.out.size; simp; omega
         intro g9 cap9 w9 hown9 hgrow9 hat9 hlt9
         have HO9:=zh (OwnR.snoc (f:=textC) (x:=s) hown9 rfl rfl)
         have HB9:Hid (Below w2.heap.size _ w9):=Below.grown (bl1 HBx8.out _) hgrow9 (bl1 HBx8.out _).size (fun q hq=>(HRow9.out.lt q hq).1)
         clear hown9 hgrow9 hat9 hlt9 HRow9
         go_wp2
         go_roundw
         case rel=>exact⟨k+1,acc ++ [s],hk2,by go_num,HP2,HA2,HO9,HB9⟩
         case measure=>simp[intOf]; omega
end
