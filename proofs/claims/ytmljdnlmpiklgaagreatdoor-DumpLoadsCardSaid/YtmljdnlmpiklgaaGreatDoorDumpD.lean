import Derived.Test.YtmljdnlmpiklgaaGreatDoorDumpC
set_option maxRecDepth 20000
set_option maxHeartbeats 8000000
namespace Go.Proofs.YtmljdnlmpiklgaaGreatDoor
open Go Go.RowKit Txt Sp
theorem kind_table {g:Sp.Geom} {a:Int} (hg:g.ok) (h0:0≤a) (h:(g.kind a).1=2):∃p:Nat,a=(p:Int)+2∧16*(p:Int)<g.regions:=by
 have hl:=Geom.long_bd hg
 have hr:=Geom.regions_bd hg
 have hf:g.first 0=2+(g.regions+15) / 16:=by unfold Geom.first; omega
 unfold Geom.kind at h
 by_cases h1:a<g.first 0
 ·rw[if_pos h1] at h
  by_cases h2:a=0∨a=1
  ·rw[if_pos h2] at h
   simp only at h
   omega
  ·refine⟨(a-2).toNat,by omega,by omega⟩
 ·rw[if_neg h1] at h
  by_cases h2:2+g.inodes≤(a-g.first 0) % g.long
  ·rw[if_pos h2] at h
   simp only at h
   omega
  ·rw[if_neg h2] at h
   by_cases h3:2≤(a-g.first 0) % g.long
   ·rw[if_pos h3] at h
    simp only at h
    omega
   ·rw[if_neg h3] at h
    simp only at h
    have:=Int.emod_nonneg (a-g.first 0) (show g.long≠0 by omega)
    omega
theorem tell_leased {g:Sp.Geom} {a:Int} {s:ByteArray} {w:World} (hg:g.ok) (h0:0≤a) (hs:s.size=64) (ht:TabOk w):TellLeased g a s w:=fun W hW hk=>by
 obtain⟨p,rfl,hp⟩:=kind_table hg h0 hk
 refine(dleased_any W g p s hg hp hs (ht.below hW)).mono fun e w' h=>?_
 refine q23z h.1 ?_ (fun L hL=>?_) h.2
 ·unfold told
  rw[if_pos hk]
  by_cases q:isLeases g ((p:Int)+2) s <;> simp[q]
 ·unfold told at hL
  rw[if_pos hk] at hL
  by_cases q:isLeases g ((p:Int)+2) s
  ·rw[if_pos q] at hL
   rw[Option.some.inj hL]
  ·rw[if_neg q] at hL
   exact absurd hL (by simp)
theorem tell_listed {g:Sp.Geom} {a:Int} {s:ByteArray} {w:World} (hs:s.size=64) (ht:TabOk w) (hm:MaxOk w):TellListed g a s w:=fun W hW hk=>dlisted_any W g a s hs hk (ht.below hW) (hm.below hW)
theorem dline_any (w:World) (g:Sp.Geom) (a:Nat) (s:ByteArray) (hg:g.ok) (h1:(a:Int)<g.size) (hs:s.size=64) (ht:TabOk w) (hm:MaxOk w) :
 Calls Tryz.prog 18 #[gV g,.int .i64 (a:Int),.string s] w fun e w'=>e = .returned (.string (ofL (lineL g a s)))∧Below w.heap.size w w':=
 dline_of w g a s hg h1 (by have:=Geom.size_bd hg; omega) hs ht (tell_leased hg (by omega) hs ht) (tell_listed hs ht hm)
theorem lineL_le {g:Sp.Geom} {a:Nat} {s:ByteArray} (hg:g.ok) (h1:(a:Int)<g.size) (hs:s.size=64):(lineL g a s).length≤3020:=by
 have h2:=whatL_le (a:=(a:Int)) hg hs
 have h3:=Geom.size_bd hg
 have h4:=q9z (n:=(a:Int).toNat) (by omega)
 unfold lineL
 rw[List.length_append,List.length_cons]
 omega
theorem textFrom_snoc:∀(i:Nat) (g:Sp.Geom) (l:List ByteArray) (s:ByteArray),textFrom i g (l ++ [s])=textFrom i g l ++ lineL g ((i+l.length:Nat):Int) s ++ [10]
 | i,g,[],s=>by simp[textFrom]
 | i,g,x :: r,s=>by
   have h:=textFrom_snoc (i+1) g r s
   show lineL g i x ++ 10 :: textFrom (i+1) g (r ++ [s])=(lineL g i x ++ 10 :: textFrom (i+1) g r) ++ lineL g ((i+(r.length+1):Nat):Int) s ++ [10]
   rw[h,show i+1+r.length=i+(r.length+1) by omega]
   simp only[List.append_assoc,List.cons_append]
def q41z (g:Sp.Geom) (l:List ByteArray) (w:World) (e:Ending) (w':World):Prop:=
 e = .returned (.tuple #[.string (textN g l).1,.int .i64 (textN g l).2])∧Below w.heap.size w w'
section
theorem dtext_any (w:World) (g:Sp.Geom) (v:Value) (l:List ByteArray) (hv:Texts w v l) (ht:TabOk w) (hm:MaxOk w) :
 Calls Tryz.prog 10 #[gV g,v] w (q41z g l w):=by
 have hsh:=fun(W:World) (hW:Below w.heap.size w W)=>dshape_any W g v l (hv.below hW)
 have HT:=zh ht
 have HM:=zh hm
 by_cases hsp:shapeP g l
 rotate_left
 ·have HNo:Hid (∀w',Below w.heap.size w w'→q41z g l w (.returned (.tuple #[.string ⟨#[]⟩,.int .i64 4])) w'):=fun w' hb=>by
   unfold q41z textN
   rw[if_neg hsp]
   exact⟨rfl,hb⟩
  rw[decide_eq_false hsp] at hsh
  obtain⟨Q,hQ⟩:=zx (q41z g l w)
  rw[hQ] at HNo ⊢
  obtain⟨ga,gb,gc⟩:=g
  unfold gV at hsh ⊢
  have HSH:=zh hsh
  clear hsh
  clear hsp hQ hv ht hm
  obtain⟨W0,hW0⟩:=zg w ga gb gc
  have hk:=g_keep hW0
  have HB0:=zh hk.1
  have HK:=zh hk.2
  clear hk
  obtain⟨z0,z1,z2⟩:=HK.out W0 (Below.refl _ _)
  go_enter Tryz.func10,Tryz.ntmps10
  go_wp2_with fail
  refine(HSH.out _ HB0.out).mono ?_
  rintro e w1 ⟨rfl,hb1⟩
  have HB1:=zh (blN HB0.out hb1)
  clear z0 z1 z2 hb1
  go_wp2
  first | exact HNo.out _ HB1.out | (go_ret2; exact HNo.out _ HB1.out)
 rw[decide_eq_true hsp] at hsh
 have hgo:=hsp.1
 have hlen:=hsp.2.1
 have hall:=hsp.2.2
 have hsz:=Geom.size_bd hgo
 have HYes:Hid (∀w',Below w.heap.size w w'→q41z g l w (.returned (.tuple #[.string (ofL (textFrom 0 g l)),.int .i64 0])) w'):=fun w' hb=>by
  unfold q41z textN
  rw[if_pos hsp]
  exact⟨rfl,hb⟩
 obtain⟨Q,hQ⟩:=zx (q41z g l w)
 rw[hQ] at HYes ⊢
 have hline:=fun(a:Nat) (s:ByteArray) (ha:l[a]? = some s) (W:World) (hW:Below w.heap.size w W)=>dline_any W g a s hgo (by rw[←hlen]; have:=(List.getElem?_eq_some_iff.1 ha).1; omega) (hall s (List.mem_of_getElem? ha)) (ht.below hW) (hm.below hW)
 have hlle:∀(a:Nat) (s:ByteArray),l[a]? = some s→(lineL g a s).length≤3020:=fun a s ha=>lineL_le hgo (by rw[←hlen]; have:=(List.getElem?_eq_some_iff.1 ha).1; omega) (hall s (List.mem_of_getElem? ha))
 have hsn:∀(a:Nat) (s:ByteArray),l[a]? = some s→textFrom 0 g (l.take (a+1))=textFrom 0 g (l.take a) ++ lineL g a s ++ [10]:=fun a s ha=>by
  have h1:(l.take a).length=a:=by rw[List.length_take]; have:=(List.getElem?_eq_some_iff.1 ha).1; omega
  rw[take_step ha,textFrom_snoc,h1,Nat.zero_add]
 have htle:∀a,a≤l.length→(textFrom 0 g (l.take a)).length≤3021*a:=fun a=>by
  induction a with
  | zero=>intro _; simp[textFrom]
  | succ a ih=>
    intro ha
    have h1:=hsn a l[a] (by simp)
    have h2:=hlle a l[a] (by simp)
    have h3:=ih (by omega)
    rw[h1,List.length_append,List.length_append,List.length_singleton]
    omega
 have hl403:l.length≤403:=by omega
 obtain⟨ad,N,cap,rfl,HN,hn2,HF⟩:=texts_facts hv
 obtain⟨F,hF⟩:∃F:Nat→ByteArray→List UInt8,(fun(a:Nat) s=>lineL g a s)=F:=⟨_,rfl⟩
 have hFe:∀(a:Nat) s,lineL g a s=F a s:=fun a s=>by rw[←hF]
 simp only[hFe] at hline hlle hsn
 obtain⟨TX,hTX⟩:∃TX:Nat→List UInt8,(fun a=>textFrom 0 g (l.take a))=TX:=⟨_,rfl⟩
 have hTe:∀a,textFrom 0 g (l.take a)=TX a:=fun a=>by rw[←hTX]
 have hT0:TX 0=[]:=by rw[←hTX]; simp[textFrom]
 have hTl:textFrom 0 g l=TX N:=by rw[←hTX,HN.out]; simp
 simp only[hTe] at hsn htle
 rw[hTl] at HYes
 have HL:=zh hl403
 obtain⟨ga,gb,gc⟩:=g
 unfold gV at hsh hline ⊢
 have HSH:=zh hsh
 have HLINE:=zh hline
 have HLLE:=zh hlle
 have HSN:=zh hsn
 have HTLE:=zh htle
 have HT0:=zh hT0
 clear hsh hline hlle hsn htle hT0
 clear hsp hQ hv ht hm hgo hlen hall hsz hF hFe hTX hTe hTl hl403
 obtain⟨W0,hW0⟩:=zg w ga gb gc
 have hk:=g_keep hW0
 have HB0:=zh hk.1
 have HK:=zh hk.2
 clear hk
 obtain⟨z0,z1,z2⟩:=HK.out W0 (Below.refl _ _)
 go_enter Tryz.func10,Tryz.ntmps10
 go_wp2_with fail
 refine(HSH.out _ HB0.out).mono ?_
 rintro e w1 ⟨rfl,hb1⟩
 clear z0 z1 z2
 have HB1:Hid (Below W0.heap.size W0 w1):=hb1
 obtain⟨W2,hW2⟩:=zx (w1.alloc (.cells #[.pointer none,.slice none 0 0] 50))
 have HB2:Hid (Below W0.heap.size W0 W2):=by rw[←hW2]; exact bl1 HB1.out _
 have hz2:W2.heap[w1.heap.size]? = some (.cells #[.pointer none,.slice none 0 0] 50 (0,0)):=by rw[←hW2]; exact heapNew w1 _
 have hs2:W2.heap.size=w1.heap.size+1:=by rw[←hW2]; simp
 have HBd:Hid (Bld (w1.heap.size+1) w1.heap.size (TX 0) W2):=by rw[HT0.out]; exact Bld.fresh (by omega) hz2
 have HS2:Hid (w1.heap.size+1≤W2.heap.size):=by rw[hs2]; exact Nat.le_refl _
 have HG:Hid (W0.heap.size≤w1.heap.size):=HB1.out.size
 clear hb1 hz2 hs2
 go_wp2_with fail
 clear hW2
 go_loopw [15] (fun i wr=>∃k:Nat,k≤N∧i = .int .i64 (k:Int)∧Hid (Bld (w1.heap.size+1) w1.heap.size (TX k) wr)∧Hid (Below W0.heap.size W0 wr)∧Hid (w1.heap.size+1≤wr.heap.size)) (fun i _=>N-(intOf i).toNat)
 case atStart=>exact⟨0,Nat.zero_le _,rfl,HBd,HB2,HS2⟩
 case round=>
  obtain⟨k,hk,rfl,HBl,HB,HSz⟩:=hrel
  by_cases hlt:k<N
  ·obtain⟨b,o,x,rfl,hb,hx,hc⟩:=HF.out k hlt
   have c0:wr.cell? ⟨b,o+k,none⟩=some (.string x):=((blN HB0.out HB.out).cell (p:=⟨b,o+k,none⟩) hb).trans hc
   obtain⟨z0,z1,z2⟩:=HK.out wr HB.out
   have HLi:=zh (HLINE.out k x hx)
   have hle:=HLLE.out k x hx
   have hsn:=HSN.out k x hx
   have htl:=HTLE.out k (by rw[←HN.out]; omega)
   have hN:=HL.out
   rw[←HN.out] at hN
   obtain⟨LX,hLX⟩:=zx (F k x)
   rw[hLX] at HLi hle hsn
   have HX:=zh hx
   have HSN2:=zh hsn
   have hlim:(TX k).length+LX.length+1≤140737488355328:=by omega
   have HLim:=zh hlim
   clear hx hc hb hLX hle hsn htl hN hlim
   go_wp2_with fail
   refine(HLi.out _ (blN HB0.out HB.out)).mono ?_
   rintro e w3 ⟨rfl,hb3⟩
   have HB3:=zh (blN HB.out hb3)
   have hbd3:=HBl.out.below hb3
   have HSz3:Hid (w1.heap.size+1≤w3.heap.size):=Nat.le_trans HSz.out hb3.size
   have HW3:=zh (btext_any _ _ _ (ofL LX) w3 hbd3 (by rw[ofL_size]; have:=HLim.out; omega) HSz3.out)
   clear c0 z0 z1 z2 hb3 hbd3
   go_wp2_with fail
   refine HW3.out.mono ?_
   rintro e w4 ⟨rfl,hbd4,hk4⟩
   rw[ofL_data] at hbd4
   have HB4:=zh (HB3.out.trans (hk4.below HG.out (by have:=HG.out; omega)))
   have HSz4:Hid (w1.heap.size+1≤w4.heap.size):=Nat.le_trans HSz3.out hk4.size
   have hw4:=bbyte_any _ _ _ 10 w4 hbd4 (by rw[List.length_append]; have:=HLim.out; omega) HSz4.out
   change Calls _ _ #[_,.int .u8 10] _ _ at hw4
   have HW4:=zh hw4
   clear hbd4 hk4 hw4 HW3
   go_wp2_with fail
   refine HW4.out.mono ?_
   rintro e w5 ⟨rfl,hbd5,hk5⟩
   rw[←HSN2.out] at hbd5
   have HB5:=zh (HB4.out.trans (hk5.below HG.out (by have:=HG.out; omega)))
   have HSz5:Hid (w1.heap.size+1≤w5.heap.size):=Nat.le_trans HSz4.out hk5.size
   have HBd5:=zh hbd5
   clear hbd5 hk5 HW4
   go_wp2
   go_roundw
   case rel=>exact⟨k+1,by omega,by go_num,HBd5,HB5,HSz5⟩
   case measure=>simp[intOf]; omega
  ·obtain rfl:k=N:=by omega
   have HSt:=zh (bstring_any _ _ _ wr HBl.out (by have:=HSz.out; omega))
   go_wp2_with fail
   refine HSt.out.mono ?_
   rintro e w2 ⟨rfl,hb2⟩
   have HB2:=zh (HB.out.trans (hb2.mono HG.out))
   clear hb2
   go_wp2
   first | exact HYes.out _ (blN HB0.out HB2.out) | (go_ret2; exact HYes.out _ (blN HB0.out HB2.out))
end
def fmtL (g:Sp.Geom) (n f:Nat):List ByteArray:=(((((List.replicate n Sp.blank).set 0 (superB g)).set 1 (wallB 0 0)).set f (ofL (1 :: zeros 63))).set (f+2) (inodeB rootN))
theorem fmtL_eq {g:Sp.Geom} {n f:Nat} (hn:(n:Int)=g.size) (hf:(f:Int)=g.first 0) (h3:3≤f):fmtL g n f=formatL g:=by
 unfold fmtL formatL
 have e:g.size.toNat=n:=by omega
 rw[e]
 apply List.ext_getElem
 ·simp
 ·intro i h1 h2
  rw[List.getElem_map,List.getElem_range]
  simp only[List.getElem_set,List.getElem_replicate]
  by_cases c0:i=0
  ·subst c0
   rw[if_neg (by omega),if_neg (by omega),if_neg (by omega),if_pos rfl,if_pos rfl]
  ·rw[if_neg c0]
   by_cases c1:i=1
   ·subst c1
    rw[if_neg (by omega),if_neg (by omega),if_pos rfl,if_pos rfl]
   ·rw[if_neg c1]
    by_cases c2:i=f
    ·subst c2
     rw[if_neg (by omega),if_pos rfl,if_pos hf]
    ·rw[if_neg (show ¬(i:Int)=g.first 0 by omega)]
     by_cases c3:i=f+2
     ·subst c3
      rw[if_pos rfl,if_pos (by omega)]
     ·rw[if_neg (by omega),if_neg (by omega),if_neg (by omega),if_neg (by omega),if_neg (by omega)]
theorem fmt_room {g:Sp.Geom} (hg:g.ok):g.first 0=2+g.tables∧g.first 0+4≤g.size∧0≤g.tables:=by
 have h1:=Geom.regions_bd hg
 have h2:=Geom.long_bd hg
 rw[Geom.size_ok hg]
 obtain⟨g1,g2,_⟩:=hg
 unfold Geom.first Geom.tables
 have e:g.groups=1∨g.groups=2∨g.groups=3∨g.groups=4:=by omega
 rcases e with e | e | e | e <;> rw[e] <;> omega
theorem fmt_map {g:Sp.Geom} (hg:g.ok):mapAt g 0 false=(g.first 0,0):=by
 have h:=hg.1
 have hw:g.within 0 g.groups=0:=by unfold Geom.within; rw[if_pos hg,if_neg (by omega)]
 unfold mapAt
 rw[if_pos hw,if_neg (by decide),Int.add_zero]
theorem fmt_many {g:Sp.Geom} (hg:g.ok):1≤g.many:=by
 rw[Geom.many_ok hg]
 have h1:=hg.1
 have h2:=hg.2.2.1
 have:=Int.mul_le_mul h1 h2 (by omega) (by omega)
 omega
theorem fmt_inode {g:Sp.Geom} (hg:g.ok):inodeAt g 1=(g.first 0+2,0,0,0):=by
 have hm:=fmt_many hg
 have hw:g.within 1 (g.many+1)=0:=by unfold Geom.within; rw[if_pos hg,if_neg (by omega)]
 unfold inodeAt
 rw[if_pos hw,if_neg (by decide)]
 have e1:((1:Int)-1) / g.inodes=0:=by rw[Int.sub_self,Int.zero_ediv]
 have e2:((1:Int)-1) % g.inodes=0:=by rw[Int.sub_self,Int.zero_emod]
 rw[e1,e2,Int.add_zero]
theorem fmt_fits {g:Sp.Geom} (hg:g.ok):(iN 2 1 0 1 1 0 0 0 0 0 0 0 0 0).check g=0:=by
 have hm:=fmt_many hg
 have hb:blockOk g 0:=Or.inl rfl
 unfold Inode.check
 rw[if_pos hg,if_pos]
 unfold Inode.fits
 refine⟨by decide,by decide,by decide,by decide,by decide,by decide,Or.inr (Or.inr ⟨rfl,rfl,by decide,?_,?_⟩)⟩
 ·show(1:Int)≤g.many; omega
 ·refine⟨fun b h=>?_,hb⟩
  have e:b=0:=by simpa [iN] using h
  rw[e]
  exact hb
theorem fmt_of {g:Sp.Geom} (hg:g.ok):ofC g.inodes [0]=0:=by
 have h1:=hg.2.2.1
 have h2:=hg.2.2.2.1
 unfold ofC
 rw[if_neg]
 rintro(h | h | ⟨p,hp,h⟩)
 ·omega
 ·omega
 ·rw[List.mem_singleton] at hp
  subst hp
  omega
theorem splice_same {α:Type} (l cs:List α) (o:Nat) (h:(l.drop o).take cs.length=cs):splice l o cs=l:=by
 unfold splice
 have e:cs ++ l.drop (o+cs.length)=l.drop o:=by
  rw[←List.drop_drop]
  have h2:=List.take_append_drop cs.length (l.drop o)
  rw[h] at h2
  exact h2
 rw[e,List.take_append_drop]
theorem zeroL_flat:∀m:Nat,(List.replicate m ((0:Int),(0:Int))).flatMap leaseB=zeros (4*m)
 | 0=>rfl
 | m+1=>by
   rw[List.replicate_succ,List.flatMap_cons,zeroL_flat m]
   unfold zeros
   rw[show 4*(m+1)=4+4*m by omega,←List.replicate_append_replicate]
   rfl
theorem tab_free (T R:Nat):tabB T (List.replicate R (0,0))=List.replicate T Sp.blank:=by
 unfold tabB
 apply List.ext_getElem
 ·simp
 ·intro i h1 h2
  rw[List.getElem_map,List.getElem_range,List.getElem_replicate,List.drop_replicate,List.take_replicate]
  unfold secB
  rw[zeroL_flat]
  unfold padL
  have h64:(zeros (4*min 16 (R-16*i))).length≤64:=by unfold zeros; rw[List.length_replicate]; omega
  unfold Sp.blank
  congr 1
  unfold zeros at h64 ⊢
  rw[List.length_replicate] at h64 ⊢
  rw[List.replicate_append_replicate]
  congr 1
  omega
theorem copied_free {N T:Nat} (h:T+2≤N) (a b:ByteArray):splice ((((List.replicate N Sp.blank).set 0 a).set 1 b).map Value.string) 2 ((List.replicate T Sp.blank).map Value.string)=(((List.replicate N Sp.blank).set 0 a).set 1 b).map Value.string:=by
 apply splice_same
 rw[←List.map_drop,←List.map_take]
 congr 1
 rw[List.length_map,List.length_replicate]
 apply List.ext_getElem
 ·simp; omega
 ·intro i h1 h2
  simp only[List.getElem_take,List.getElem_drop,List.getElem_set,List.getElem_replicate]
  rw[if_neg (by omega),if_neg (by omega)]
def FormatPost (g:Sp.Geom) (w:World) (e:Ending) (w':World):Prop:=
 ∃v,e = .returned (.tuple #[v,.int .i64 g.check])∧OwnTexts w.heap.size w' v (if g.ok then formatL g else [])∧Below w.heap.size w w'
section
theorem aformat_any (w:World) (g:Sp.Geom):Calls Tryz.prog 13 #[gV g] w (FormatPost g w):=by
 have hch:=fun W:World=>gcheck_any W g
 by_cases hg:g.ok
 rotate_left
 ·have HN4:Hid (∀w',Below w.heap.size w w'→FormatPost g w (.returned (.tuple #[.slice none 0 0,.int .i64 4])) w'):=fun w' hb=>⟨_,by rw[Geom.check_no hg],by rw[if_neg hg]; exact OwnTexts.void _ _,hb⟩
  rw[Geom.check_no hg] at hch
  obtain⟨Q,hQ⟩:=zx (FormatPost g w)
  rw[hQ] at HN4 ⊢
  clear hg hQ
  obtain⟨ga,gb,gc⟩:=g
  unfold gV at hch ⊢
  have HCH:=zh hch
  clear hch
  obtain⟨W0,hW0⟩:=zg w ga gb gc
  have hk:=g_keep hW0
  have HB0:=zh hk.1
  have HK:=zh hk.2
  clear hk
  obtain⟨z0,z1,z2⟩:=HK.out W0 (Below.refl _ _)
  go_enter Tryz.func13,Tryz.ntmps13
  go_wp2_with fail
  refine(HCH.out _).mono ?_
  rintro e w1 ⟨rfl,hb1⟩
  have HB1:=zh (blN (Below.refl _ _) hb1)
  clear hb1
  clear z0 z1 z2
  go_wp2
  first | exact HN4.out _ (blN HB0.out HB1.out) | (go_ret2; exact HN4.out _ (blN HB0.out HB1.out))
 rw[Geom.check_ok hg] at hch
 have hsz:=Geom.size_bd hg
 have hrb:=Geom.regions_bd hg
 have hfb:=Geom.first_bd hg (k:=0) (by omega) (by omega)
 have hgs:=fun W:World=>gsize_any W g
 have hreg:=fun W:World=>gregions_any W g
 have hsup:=fun W:World=>sencode_any W g
 rw[if_pos hg,Geom.check_ok hg] at hsup
 have hfen:=fun W:World=>sfence_any W 0 0 (by decide) (by decide)
 have hbl:=fun W:World=>fblank_any W
 obtain⟨N,hN⟩:∃N:Nat,g.size=(N:Int):=⟨g.size.toNat,by omega⟩
 obtain⟨R,hR⟩:∃N:Nat,g.regions=(N:Int):=⟨g.regions.toNat,by omega⟩
 obtain⟨f,hf⟩:∃N:Nat,g.first 0=(N:Int):=⟨(g.first 0).toNat,by omega⟩
 rw[hN] at hgs hsz
 rw[hR] at hreg hrb
 rw[hf] at hfb
 have HY:Hid (∀v w',OwnTexts w.heap.size w' v (fmtL g N f)→Below w.heap.size w w'→FormatPost g w (.returned (.tuple #[v,.int .i64 0])) w'):=fun v w' ho hb=>⟨v,by rw[Geom.check_ok hg],by rw[if_pos hg,←fmtL_eq hN.symm hf.symm (by omega)]; exact ho,hb⟩
 have hmk:=fun W:World=>run_make_strs W N (by omega)
 have hml:=fun W:World=>run_make_leas W R (by omega)
 obtain⟨Q,hQ⟩:=zx (FormatPost g w)
 rw[hQ] at HY ⊢
 obtain⟨SB,hSB⟩:=zx (superB g)
 have HSB:=zh hSB
 rw[hSB] at hsup
 have HG:=zh hg
 have HNg:=zh hN
 have HRg:=zh hR
 have HFg:=zh hf
 change ∀W,Calls _ _ #[.agg #[.int .i64 0,.int .i64 0]] _ _ at hfen
 clear hg hQ hN hR hf hSB
 obtain⟨ga,gb,gc⟩:=g
 unfold gV at hch hgs hreg hsup ⊢
 have HCH:=zh hch
 have HGS:=zh hgs
 have HREG:=zh hreg
 have HSUP:=zh hsup
 have HFEN:=zh hfen
 have HBL:=zh hbl
 have HMK:=zh hmk
 have HML:=zh hml
 clear hch hgs hreg hsup hfen hbl hmk hml
 obtain⟨W0,hW0⟩:=zg w ga gb gc
 have hk:=g_keep hW0
 have HB0:=zh hk.1
 have HK:=zh hk.2
 clear hk
 obtain⟨z0,z1,z2⟩:=HK.out W0 (Below.refl _ _)
 go_enter Tryz.func13,Tryz.ntmps13
 go_wp2_with fail
 refine(HCH.out _).mono ?_
 rintro e w1 ⟨rfl,hb1⟩
 have HB1:=zh (blN (Below.refl _ _) hb1)
 clear hb1
 clear z0 z1 z2
 obtain⟨z0,z1,z2⟩:=HK.out w1 HB1.out
 go_wp2_with fail
 refine(HGS.out _).mono ?_
 rintro e w2 ⟨rfl,hb2⟩
 have HB2:=zh (blN HB1.out hb2)
 clear hb2
 clear z0 z1 z2
 have hmk:=HMK.out w2
 obtain⟨W3,hW3⟩:=zx (w2.alloc (strsO (List.replicate N ByteArray.empty)))
 rw[hW3] at hmk
 have HR3:Hid (W3.heap[w2.heap.size]? = some (strsO (List.replicate 0 Sp.blank ++ List.replicate (N-0) ByteArray.empty))):=by rw[←hW3]; exact heapNew w2 _
 have HB3:Hid (Below W0.heap.size W0 W3):=by rw[←hW3]; exact bl1 HB2.out _
 have HG1:Hid (W0.heap.size≤w2.heap.size):=HB2.out.size
 clear hW3
 go_wp2
 go_loopw [21] (fun i wr=>∃k:Nat,k≤N∧i = .int .i64 k∧Hid (wr.heap[w2.heap.size]? = some (strsO (List.replicate k Sp.blank ++ List.replicate (N-k) ByteArray.empty)))∧Hid (Below W0.heap.size W0 wr)) (fun i _=>N-(intOf i).toNat)
 case atStart=>exact⟨0,Nat.zero_le _,rfl,HR3,HB3⟩
 case round=>
  obtain⟨k,hk,rfl,HR,HB⟩:=hrel
  by_cases hlt:k<N
  ·go_wp2_with fail
   refine(HBL.out _).mono ?_
   rintro e w4 ⟨rfl,hb4⟩
   have hr4:=heapOld hb4 HR.out
   have HB4:Hid (Below W0.heap.size W0 w4):=blN HB.out hb4
   have c0:=strs_cell hr4 (i:=k) (s:=ByteArray.empty) (by rw[List.getElem?_append_right (by simp),List.length_replicate,Nat.sub_self,List.getElem?_replicate,if_pos (by omega)])
   have c1:=strs_free hr4 (i:=k)
   have hs:=strs_set (i:=k) hr4 Sp.blank
   rw[rep_set hlt] at hs
   have HS:=zh hs
   have HB5:=zh (HB4.out.setCell (p:=⟨w2.heap.size,k,none⟩) HG1.out (.string Sp.blank))
   clear hb4 hr4 hs
   go_wp2
   go_roundw
   case rel=>exact⟨k+1,by omega,by go_num,HS,HB5⟩
   case measure=>simp[intOf]; omega
  ·have hkN:k=N:=by omega
   have hrow:=HR.out
   rw[hkN,Nat.sub_self,List.replicate_zero,List.append_nil] at hrow
   obtain⟨L0,hL0⟩:=zx (List.replicate N Sp.blank)
   have hlen:L0.length=N:=by rw[←hL0,List.length_replicate]
   rw[hL0] at hrow
   have HR5:=zh hrow
   clear hrow HR HR3 HB3
   obtain⟨z0,z1,z2⟩:=HK.out wr HB.out
   go_wp2_with fail
   refine(HSUP.out _).mono ?_
   rintro e w5 ⟨rfl,hb5⟩
   clear z0 z1 z2
   have hr5:=heapOld hb5 HR5.out
   have HB5:Hid (Below W0.heap.size W0 w5):=blN HB.out hb5
   have c0:=strs_cell hr5 (i:=0) (List.getElem?_eq_getElem (by omega))
   have c1:=strs_free hr5 (i:=0)
   have hs:=strs_set (i:=0) hr5 SB
   obtain⟨W6,hW6⟩:=zx (w5.setCell ⟨w2.heap.size,0,none⟩ (.string SB))
   rw[hW6] at hs
   have HB6:Hid (Below W0.heap.size W0 W6):=by rw[←hW6]; exact HB5.out.setCell (p:=⟨w2.heap.size,0,none⟩) HG1.out (.string SB)
   have HR6:=zh hs
   have hN1:(0:Int)<(N:Int):=by omega
   have hN2:(1:Int)<(N:Int):=by omega
   clear hb5 hr5 hs
   go_wp2_with fail
   refine(HFEN.out _).mono ?_
   rintro e w7 ⟨rfl,hb7⟩
   have hr7:=heapOld hb7 HR6.out
   have HB7:Hid (Below W0.heap.size W0 w7):=blN HB6.out hb7
   have c2:=strs_cell hr7 (i:=1) (List.getElem?_eq_getElem (by rw[List.length_set]; omega))
   have c3:=strs_free hr7 (i:=1)
   have hs:=strs_set (i:=1) hr7 (wallB 0 0)
   obtain⟨W8,hW8⟩:=zx (w7.setCell ⟨w2.heap.size,1,none⟩ (.string (wallB 0 0)))
   rw[hW8] at hs
   have HB8:Hid (Below W0.heap.size W0 W8):=by rw[←hW8]; exact HB7.out.setCell (p:=⟨w2.heap.size,1,none⟩) HG1.out (.string (wallB 0 0))
   have HR8:=zh hs
   clear hb7 hr7 hs
   go_wp2_with fail
   clear c0 c1 c2 c3 hmk
   have HTEN:Hid (∀(W:World) (b:Nat),W.heap[b]? = some (leasO (List.replicate R (0,0)) 97)→Calls Tryz.prog 34 #[.agg #[.int .i64 ga,.int .i64 gb,.int .i64 gc],.slice (some ⟨b,0,none⟩) R R] W fun e w'=>∃v,e = .returned (.tuple #[v,.int .i64 0])∧OwnTexts W.heap.size w' v (tabB (Sp.Geom.tables ⟨ga,gb,gc⟩).toNat (List.replicate R (0,0)))∧Below W.heap.size W w'):=fun W b hW=>by
    have h:=tencode_any W ⟨ga,gb,gc⟩ (.slice (some ⟨b,0,none⟩) R R) (List.replicate R (0,0)) (leas_row hW (by rw[List.length_replicate]; unfold maxLen; omega) (by rw[List.length_replicate]))
    have hc:tableC ⟨ga,gb,gc⟩ (List.replicate R (0,0))=0:=by
     unfold tableC
     rw[if_pos ⟨HG.out,by rw[List.length_replicate]; exact HRg.out.symm⟩,if_pos (fun x hx=>by rw[(List.mem_replicate.1 hx).2]; decide)]
    unfold TEnc tableN gV at h
    rw[hc,if_pos rfl] at h
    exact h
   go_region_held3 (fun W=>W.cell? ⟨w.heap.size,0,none⟩=some (.int .i64 ga)∧W.cell? ⟨w.heap.size,1,none⟩=some (.int .i64 gb)∧W.cell? ⟨w.heap.size,2,none⟩=some (.int .i64 gc))
    ((refine HK.out _ ?_; repeat' first | with_reducible exact HB8.out | with_reducible exact HB9.out | with_reducible exact HB10.out | with_reducible refine blD ?_ | with_reducible refine bl1 ?_ _))
    (first
      | (go_at_call 35
         refine(HREG.out _).mono ?_
         rintro e w9 ⟨rfl,hb9⟩
         have HB9:Hid (Below W0.heap.size W0 w9):=blN (by repeat' first | with_reducible exact HB8.out | with_reducible refine blD ?_ | with_reducible refine bl1 ?_ _) hb9
         have HX9:Hid (Below W8.heap.size W8 w9):=blN (by repeat' first | with_reducible exact Below.refl _ _ | with_reducible refine blD ?_ | with_reducible refine bl1 ?_ _) hb9
         have hml:=HML.out w9
         clear hb9
         simp only)
      | (go_at_call 34
         with_reducible refine(HTEN.out _ _ ?a1).mono ?_
         case a1=>(repeat' first | with_reducible exact heapNew _ _ | with_reducible refine heapOld (blD (Below.refl _ _)) ?_)
         rintro e w10 ⟨v,rfl,hown,hb10⟩
         have HB10:Hid (Below W0.heap.size W0 w10):=blN (by repeat' first | with_reducible exact HB9.out | with_reducible refine blD ?_ | with_reducible refine bl1 ?_ _) hb10
         have HX10:Hid (Below W8.heap.size W8 w10):=blN (by repeat' first | with_reducible exact HX9.out | with_reducible refine blD ?_ | with_reducible refine bl1 ?_ _) hb10
         have HTx:=zh (OwnTexts.texts hown)
         clear hb10 hown
         simp only))
   all_goals
    have hr10:=heapOld HX10.out HR8.out
    have htx:=HTx.out
    rw[tab_free] at htx
    obtain⟨T,hT⟩:=zx ((Sp.Geom.tables ⟨ga,gb,gc⟩).toNat)
    rw[hT] at htx
    obtain⟨ad,n,cap,rfl,HNt,hnt2,HFt⟩:=texts_facts htx
    obtain rfl:T=n:=by have:=HNt.out; rw[List.length_replicate] at this; exact this.symm
    have HTT:=zh hT
    clear htx hT
    rw[←hL0] at hr10
    have hTN:T+2≤N:=by
     have h1:=HTT.out
     have h2:=HFg.out
     have h3:=HNg.out
     have h4:=fmt_room HG.out
     omega
    have hcur:w10.heap[w2.heap.size]? = some (.cells ((((List.replicate N Sp.blank).set 0 SB).set 1 (wallB 0 0)).map Value.string).toArray 9 (0,0)):=hr10
    have HCur:=zh hcur
    have hszT:(Tryz.prog.info? 9).map (·.size)=some 1:=by kernel_rfl
    clear hr10 hcur
    go_wp2_with (refine wpList_copy_splice rfl (.tmp 52) (.tmp 53) 25 25 rfl 9 Tryz.underlying25 hszT _ _ _ _ _ _ rfl rfl w2.heap.size 2 _ 9 HCur.out ((List.replicate T Sp.blank).map Value.string) ?c1 ?c2 ?c3 ?c4 W0.heap.size W0 HB10.out HG1.out ?c5)
    case c1=>rw[List.length_map,List.length_replicate]; show T=min T (N-2); omega
    case c2=>
     intro h0
     obtain⟨b,o,x,rfl,hb,hx,hc⟩:=HFt.out 0 h0
     refine⟨_,rfl,fun j y hy=>?_⟩
     have hj:j<T:=by have:=(List.getElem?_eq_some_iff.1 hy).1; simpa using this
     obtain⟨b2,o2,x2,he,hb2,hx2,hc2⟩:=HFt.out j hj
     cases he
     have e1:Sp.blank=x2:=by
      rw[List.getElem?_replicate,if_pos hj] at hx2
      exact Option.some.inj hx2
     have e:Value.string x2=y:=by
      rw[List.getElem?_replicate,if_pos hj] at hy
      rw[←e1]
      exact Option.some.inj hy
     rw[←e,show(⟨b,o,none⟩:Addr).add j=⟨b,o+j,none⟩ by unfold Addr.add; split <;> simp_all]
     exact hc2
    case c3=>
     simp only[List.length_map,List.length_replicate,List.length_set]
     omega
    case c4=>intro y hy; obtain⟨s,_,rfl⟩:=List.mem_map.1 hy; rfl
    case c5=>
     intro w11 hcp hb11
     have HB11:=zh hb11
     have hcf:=copied_free hTN SB (wallB 0 0)
     rw[hL0] at hcf
     simp only[List.map_set,List.map_replicate] at hcf
     have HR11:Hid (w11.heap[w2.heap.size]? = some (strsO ((L0.set 0 SB).set 1 (wallB 0 0)))):=by
      have h:=hcp.out
      rw[hcf] at h
      show _=_
      unfold strsO
      simp only[List.map_set]
      exact h
     clear hcp hb11 hcf HCur hszT HFt HNt HTx
     have hmap:=fun W:World=>gmap_any W ⟨ga,gb,gc⟩ 0 false
     rw[fmt_map HG.out,HFg.out] at hmap
     have hino:=fun W:World=>ginode_any W ⟨ga,gb,gc⟩ 1
     rw[fmt_inode HG.out,HFg.out] at hino
     obtain⟨d,hd⟩:=zx (f+2)
     have hf2:(f:Int)+2=(d:Int):=by omega
     simp only[hf2] at hino
     have HDd:=zh hd
     have henc:=fun W:World=>iencode_any W ⟨ga,gb,gc⟩ 2 1 0 1 1 0 0 0 0 0 0 0 0 0
     unfold IEnc at henc
     rw[fmt_fits HG.out,if_pos rfl] at henc
     have hofc:ofC gb [0]=0:=fmt_of HG.out
     have hof:∀(W:World) (b:Nat),W.heap[b]? = some (.cells #[.int .i64 0] 3 (0,0))→Calls Tryz.prog 37 #[.int .i64 gb,.slice (some ⟨b,0,none⟩) 1 1] W fun e w'=>e = .returned (.tuple #[.string (ofL (1 :: zeros 63)),.int .i64 0])∧Below W.heap.size W w':=fun W b hW=>by
      have h:=mof_any W gb (.slice (some ⟨b,0,none⟩) 1 1) [0] (ints_block (o:=0) hW (fun j n hj=>by
       match j,hj with
       | 0,hj=>have e:(0:Int)=n:=by simpa using hj
               rw[←e]; rfl
       | q+1,hj=>simp at hj) (by unfold maxLen; simp) rfl)
      unfold OfPost at h
      rw[hofc,if_pos rfl] at h
      exact h
     unfold gV at hmap hino henc
     unfold iA at henc
     have hfN:(f:Int)<(N:Int):=by have h2:=HFg.out; have h3:=HNg.out; have h4:=fmt_room HG.out; omega
     have hfN2:(d:Int)<(N:Int):=by have h2:=HFg.out; have h3:=HNg.out; have h4:=fmt_room HG.out; omega
     clear hf2 hd
     have HMAP:=zh hmap
     have HINO:=zh hino
     have HENC:=zh henc
     have HOF:=zh hof
     clear hmap hino henc hof
     obtain⟨z0,z1,z2⟩:=HK.out w11 HB11.out
     go_wp2_with fail
     clear z0 z1 z2
     refine(HMAP.out _).mono ?_
     rintro e w12 ⟨rfl,hb12⟩
     have HB12:=zh (blN HB11.out hb12)
     have HR12:=zh (heapOld hb12 HR11.out)
     clear hb12
     obtain⟨z0,z1,z2⟩:=HK.out w12 HB12.out
     go_wp2_with fail
     clear z0 z1 z2
     refine(HOF.out _ _ (heapNew w12 _)).mono ?_
     rintro e w13 ⟨rfl,hb13⟩
     have HB13:=zh (blN (bl1 HB12.out _) hb13)
     have hr13:=heapOld hb13 (heapOld (bl2 _) HR12.out)
     have c4:=strs_cell hr13 (i:=f) (List.getElem?_eq_getElem (by rw[List.length_set,List.length_set]; omega))
     have c5:=strs_free hr13 (i:=f)
     have hs:=strs_set (i:=f) hr13 (ofL (1 :: zeros 63))
     obtain⟨MB,hMB⟩:=zx (ofL (1 :: zeros 63))
     rw[hMB] at hs ⊢
     obtain⟨W14,hW14⟩:=zx (w13.setCell ⟨w2.heap.size,f,none⟩ (.string MB))
     rw[hW14] at hs
     have HB14:Hid (Below W0.heap.size W0 W14):=by rw[←hW14]; exact HB13.out.setCell (p:=⟨w2.heap.size,f,none⟩) HG1.out (.string MB)
     have HR14:=zh hs
     have HMB:=zh hMB
     clear hb13 hr13 hs hMB
     obtain⟨z0,z1,z2⟩:=HK.out W14 HB14.out
     go_wp2_with fail
     clear z0 z1 z2 c4 c5 hW14
     refine(HINO.out _).mono ?_
     rintro e w15 ⟨rfl,hb15⟩
     have HB15:=zh (blN HB14.out hb15)
     have HR15:=zh (heapOld hb15 HR14.out)
     clear hb15
     obtain⟨z0,z1,z2⟩:=HK.out w15 HB15.out
     go_wp2_with fail
     clear z0 z1 z2
     refine(HENC.out _).mono ?_
     rintro e w16 ⟨rfl,hb16⟩
     have HB16:=zh (blN HB15.out hb16)
     have hr16:=heapOld hb16 HR15.out
     have c6:=strs_cell hr16 (i:=d) (List.getElem?_eq_getElem (by rw[List.length_set,List.length_set,List.length_set]; have:=HDd.out; omega))
     have c7:=strs_free hr16 (i:=d)
     have hs:=strs_set (i:=d) hr16 (inodeB rootN)
     change _=some (strsO (((L0.set 0 SB).set 1 (wallB 0 0)).set f MB |>.set d (inodeB rootN))) at hs
     obtain⟨IB,hIB⟩:=zx (inodeB rootN)
     have hIB2:inodeB (iN 2 1 0 1 1 0 0 0 0 0 0 0 0 0)=IB:=hIB
     rw[hIB] at hs
     rw[hIB2]
     obtain⟨W17,hW17⟩:=zx (w16.setCell ⟨w2.heap.size,d,none⟩ (.string IB))
     rw[hW17] at hs
     have HB17:Hid (Below W0.heap.size W0 W17):=by rw[←hW17]; exact HB16.out.setCell (p:=⟨w2.heap.size,d,none⟩) HG1.out (.string IB)
     have hfin:(((L0.set 0 SB).set 1 (wallB 0 0)).set f MB).set d IB=fmtL ⟨ga,gb,gc⟩ N f:=by
      unfold fmtL
      rw[hL0,HSB.out,HMB.out,hIB,HDd.out]
     rw[hfin] at hs
     have HFin:=zh (HY.out _ _ (strs_own hs (Nat.le_trans HB0.out.size HG1.out) (by rw[←hfin]; simp only[List.length_set]; unfold maxLen; omega) (n:=N) (by rw[←hfin]; simp only[List.length_set]; exact hlen.symm)) (blN HB0.out HB17.out))
     clear hb16 hr16 hs hfin hIB hIB2
     go_wp2
     first | exact HFin.out | (go_ret2; exact HFin.out)
end
def wkG:Sp.Geom:=⟨1,2,3⟩
theorem wk_ok:wkG.ok:=by decide +kernel
theorem wk_code:(textN wkG (formatL wkG)).2=0:=by decide +kernel
theorem wk_text:((textN wkG (formatL wkG)).1.data.toList.take 14)=[48,32,115,117,112,101,114,32,49,32,50,32,51,10]:=by decide +kernel
theorem wk_size:14<(textN wkG (formatL wkG)).1.size:=by decide +kernel
section
theorem works31_any (w:World) (ht:TabOk w) (hm:MaxOk w):Calls Tryz.prog 6 #[] w fun e w'=>e = .returned (.bool true)∧Below w.heap.size w w':=by
 have hfm:=fun W:World=>aformat_any W wkG
 unfold FormatPost at hfm
 rw[if_pos wk_ok,Geom.check_ok wk_ok] at hfm
 have htx:=fun(W:World) (v:Value) (hv:Texts W v (formatL wkG)) (ht:TabOk W) (hm:MaxOk W)=>dtext_any W wkG v (formatL wkG) hv ht hm
 unfold q41z at htx
 rw[wk_code] at htx
 have h1:=wk_text
 have h2:=wk_size
 obtain⟨T,hT⟩:=zx ((textN wkG (formatL wkG)).1)
 rw[hT] at htx h1 h2
 obtain⟨L,hL⟩:=zx (formatL wkG)
 rw[hL] at hfm htx
 have h3:(14:Int)<(T.size:Int):=by omega
 have h4:decide ((T.size:Int) > 14)=true:=decide_eq_true h3
 unfold wkG gV at hfm htx
 have HT:=zh ht
 have HM:=zh hm
 have H1:=zh h1
 clear hT hL ht hm h1
 have HFM:=zh hfm
 have HTX:=zh htx
 clear hfm htx
 go_enter Tryz.func6,Tryz.ntmps6
 obtain⟨W0,hW0⟩:=zg w 1 2 3
 have hk:=g_keep hW0
 have HB0:=zh hk.1
 have HK:=zh hk.2
 clear hk
 obtain⟨z0,z1,z2⟩:=HK.out W0 (Below.refl _ _)
 go_wp2_with fail
 clear z0 z1 z2
 refine(HFM.out _).mono ?_
 rintro e w1 ⟨v,rfl,ho,hb1⟩
 have HB1:Hid (Below W0.heap.size W0 w1):=hb1
 have HO:=zh (OwnTexts.texts ho)
 clear hb1 ho
 obtain⟨z0,z1,z2⟩:=HK.out w1 HB1.out
 go_wp2_with fail
 clear z0 z1 z2
 refine(HTX.out _ _ HO.out (HT.out.below (blN HB0.out HB1.out)) (HM.out.below (blN HB0.out HB1.out))).mono ?_
 rintro e w2 ⟨rfl,hb2⟩
 have HB2:=zh (blN (blN HB0.out HB1.out) hb2)
 clear hb2
 have fx:((T.extract 0 14).toList == [48,32,115,117,112,101,114,32,49,32,50,32,51,10])=true:=by
  rw[Lib.toList_data,ByteArray.data_extract,Array.toList_extract]
  have h:=H1.out
  simp only[List.extract_eq_take_drop,List.drop_zero,Nat.sub_zero]
  rw[h]
  rfl
 go_wp2
 go_ret
 exact⟨rfl,HB2.out⟩
end
