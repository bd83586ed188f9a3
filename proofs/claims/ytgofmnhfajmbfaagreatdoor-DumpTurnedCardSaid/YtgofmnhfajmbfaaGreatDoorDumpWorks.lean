import Derived.Test.YtgofmnhfajmbfaaGreatDoorDumpLine
import Derived.Test.YtgofmnhfajmbfaaGreatDoorDumpLeased
import Derived.Test.YtgofmnhfajmbfaaGreatDoorDumpListed
set_option maxRecDepth 20000
set_option maxHeartbeats 8000000
namespace Go.Proofs.YtgofmnhfajmbfaaGreatDoor
open Go Go.RowKit Txt Sp
theorem kind_table {g:Sp.Geom} {a:Int} (hg:g.ok) (h0:0≤a) (h:(g.kind a).1=2):∃p:Nat,a=(p:Int)+2∧16*(p:Int)<g.regions:=by
 have hl:=Geom.long_bd hg
 have hr:=Geom.regions_bd hg
 have hf:g.first 0=2+(g.regions+15) / 16:=by unfold Geom.first; omega
 unfold Geom.kind at h
 by_cases h1:a<g.first 0
 ·rw[if_pos h1] at h
  by_cases h2:a=0∨a=1
  ·rw[if_pos h2] at h
   simp only at h
   omega
  ·refine⟨(a-2).toNat,by omega,by omega⟩
 ·rw[if_neg h1] at h
  by_cases h2:2+g.inodes≤(a-g.first 0) % g.long
  ·rw[if_pos h2] at h
   simp only at h
   omega
  ·rw[if_neg h2] at h
   by_cases h3:2≤(a-g.first 0) % g.long
   ·rw[if_pos h3] at h
    simp only at h
    omega
   ·rw[if_neg h3] at h
    simp only at h
    have:=Int.emod_nonneg (a-g.first 0) (show g.long≠0 by omega)
    omega
theorem tell_leased {g:Sp.Geom} {a:Int} {s:ByteArray} {w:World} (hg:g.ok) (h0:0≤a) (hs:s.size=64) (ht:TabOk w):TellLeased g a s w:=fun W hW hk=>by
 obtain⟨p,rfl,hp⟩:=kind_table hg h0 hk
 refine(dleased_any W g p s hg hp hs (ht.below hW)).mono fun e w' h=>?_
 refine q127z h.1 ?_ (fun L hL=>?_) h.2
 ·unfold told
  rw[if_pos hk]
  by_cases q:q52z g ((p:Int)+2) s <;> simp[q]
 ·unfold told at hL
  rw[if_pos hk] at hL
  by_cases q:q52z g ((p:Int)+2) s
  ·rw[if_pos q] at hL
   rw[Option.some.inj hL]
  ·rw[if_neg q] at hL
   exact absurd hL (by simp)
theorem tell_listed {g:Sp.Geom} {a:Int} {s:ByteArray} {w:World} (hs:s.size=64) (ht:TabOk w) (hm:MaxOk w):TellListed g a s w:=fun W hW hk=>dlisted_any W g a s hs hk (ht.below hW) (hm.below hW)
theorem dline_any (w:World) (g:Sp.Geom) (a:Nat) (s:ByteArray) (hg:g.ok) (h1:(a:Int)<g.size) (hs:s.size=64) (ht:TabOk w) (hm:MaxOk w) :
 Calls Tryz.prog 82 #[gV g,.int .i64 (a:Int),.string s] w fun e w'=>e = .returned (.string (ofL (lineL g a s)))∧Below w.heap.size w w':=
 dline_of w g a s hg h1 (by have:=Geom.size_bd hg; omega) hs ht (tell_leased hg (by omega) hs ht) (tell_listed hs ht hm)
theorem lineL_le {g:Sp.Geom} {a:Nat} {s:ByteArray} (hg:g.ok) (h1:(a:Int)<g.size) (hs:s.size=64):(lineL g a s).length≤3020:=by
 have h2:=whatL_le (a:=(a:Int)) hg hs
 have h3:=Geom.size_bd hg
 have h4:=q41z (n:=(a:Int).toNat) (by omega)
 unfold lineL
 rw[List.length_append,List.length_cons]
 omega
theorem textFrom_snoc:∀(i:Nat) (g:Sp.Geom) (l:List ByteArray) (s:ByteArray),q36z i g (l ++ [s])=q36z i g l ++ lineL g ((i+l.length:Nat):Int) s ++ [10]
 | i,g,[],s=>by simp[q36z]
 | i,g,x :: r,s=>by
   have h:=textFrom_snoc (i+1) g r s
   show lineL g i x ++ 10 :: q36z (i+1) g (r ++ [s])=(lineL g i x ++ 10 :: q36z (i+1) g r) ++ lineL g ((i+(r.length+1):Nat):Int) s ++ [10]
   rw[h,show i+1+r.length=i+(r.length+1) by omega]
   simp only[List.append_assoc,List.cons_append]
def q89z (g:Sp.Geom) (l:List ByteArray) (w:World) (e:Ending) (w':World):Prop:=
 e = .returned (.tuple #[.string (textN g l).1,.int .i64 (textN g l).2])∧Below w.heap.size w w'
section
theorem dtext_any (w:World) (g:Sp.Geom) (v:Value) (l:List ByteArray) (hv:Texts w v l) (ht:TabOk w) (hm:MaxOk w) :
 Calls Tryz.prog 71 #[gV g,v] w (q89z g l w):=by
 have hsh:=fun(W:World) (hW:Below w.heap.size w W)=>dshape_any W g v l (hv.below hW)
 have HT:=zh ht
 have HM:=zh hm
 by_cases hsp:q27z g l
 rotate_left
 ·have HNo:Hid (∀w',Below w.heap.size w w'→q89z g l w (.returned (.tuple #[.string ⟨#[]⟩,.int .i64 4])) w'):=fun w' hb=>by
   unfold q89z textN
   rw[if_neg hsp]
   exact⟨rfl,hb⟩
  rw[decide_eq_false hsp] at hsh
  obtain⟨Q,hQ⟩:=zx (q89z g l w)
  rw[hQ] at HNo ⊢
  obtain⟨ga,gb,gc⟩:=g
  unfold gV at hsh ⊢
  have HSH:=zh hsh
  clear hsh
  clear hsp hQ hv ht hm
  obtain⟨W0,hW0⟩:=zg w ga gb gc
  have hk:=q14z hW0
  have HB0:=zh hk.1
  have HK:=zh hk.2
  clear hk
  obtain⟨z0,z1,z2⟩:=HK.out W0 (Below.refl _ _)
  go_enter Tryz.func71,Tryz.ntmps71
  go_wp2_with fail
  refine(HSH.out _ HB0.out).mono ?_
  rintro e w1 ⟨rfl,hb1⟩
  have HB1:=zh (blN HB0.out hb1)
  clear z0 z1 z2 hb1
  go_wp2
  first | exact HNo.out _ HB1.out | (go_ret2; exact HNo.out _ HB1.out)
 rw[decide_eq_true hsp] at hsh
 have hgo:=hsp.1
 have hlen:=hsp.2.1
 have hall:=hsp.2.2
 have hsz:=Geom.size_bd hgo
 have HYes:Hid (∀w',Below w.heap.size w w'→q89z g l w (.returned (.tuple #[.string (ofL (q36z 0 g l)),.int .i64 0])) w'):=fun w' hb=>by
  unfold q89z textN
  rw[if_pos hsp]
  exact⟨rfl,hb⟩
 obtain⟨Q,hQ⟩:=zx (q89z g l w)
 rw[hQ] at HYes ⊢
 have hline:=fun(a:Nat) (s:ByteArray) (ha:l[a]? = some s) (W:World) (hW:Below w.heap.size w W)=>dline_any W g a s hgo (by rw[←hlen]; have:=(List.getElem?_eq_some_iff.1 ha).1; omega) (hall s (List.mem_of_getElem? ha)) (ht.below hW) (hm.below hW)
 have hlle:∀(a:Nat) (s:ByteArray),l[a]? = some s→(lineL g a s).length≤3020:=fun a s ha=>lineL_le hgo (by rw[←hlen]; have:=(List.getElem?_eq_some_iff.1 ha).1; omega) (hall s (List.mem_of_getElem? ha))
 have hsn:∀(a:Nat) (s:ByteArray),l[a]? = some s→q36z 0 g (l.take (a+1))=q36z 0 g (l.take a) ++ lineL g a s ++ [10]:=fun a s ha=>by
  have h1:(l.take a).length=a:=by rw[List.length_take]; have:=(List.getElem?_eq_some_iff.1 ha).1; omega
  rw[q72z ha,textFrom_snoc,h1,Nat.zero_add]
 have htle:∀a,a≤l.length→(q36z 0 g (l.take a)).length≤3021*a:=fun a=>by
  induction a with
  | zero=>intro _; simp[q36z]
  | succ a ih=>
    intro ha
    have h1:=hsn a l[a] (by simp)
    have h2:=hlle a l[a] (by simp)
    have h3:=ih (by omega)
    rw[h1,List.length_append,List.length_append,List.length_singleton]
    omega
 have hl403:l.length≤403:=by omega
 obtain⟨ad,N,cap,rfl,HN,hn2,HF⟩:=q26z hv
 obtain⟨F,hF⟩:∃F:Nat→ByteArray→List UInt8,(fun(a:Nat) s=>lineL g a s)=F:=⟨_,rfl⟩
 have hFe:∀(a:Nat) s,lineL g a s=F a s:=fun a s=>by rw[←hF]
 simp only[hFe] at hline hlle hsn
 obtain⟨TX,hTX⟩:∃TX:Nat→List UInt8,(fun a=>q36z 0 g (l.take a))=TX:=⟨_,rfl⟩
 have hTe:∀a,q36z 0 g (l.take a)=TX a:=fun a=>by rw[←hTX]
 have hT0:TX 0=[]:=by rw[←hTX]; simp[q36z]
 have hTl:q36z 0 g l=TX N:=by rw[←hTX,HN.out]; simp
 simp only[hTe] at hsn htle
 rw[hTl] at HYes
 have HL:=zh hl403
 obtain⟨ga,gb,gc⟩:=g
 unfold gV at hsh hline ⊢
 have HSH:=zh hsh
 have HLINE:=zh hline
 have HLLE:=zh hlle
 have HSN:=zh hsn
 have HTLE:=zh htle
 have HT0:=zh hT0
 clear hsh hline hlle hsn htle hT0
 clear hsp hQ hv ht hm hgo hlen hall hsz hF hFe hTX hTe hTl hl403
 obtain⟨W0,hW0⟩:=zg w ga gb gc
 have hk:=q14z hW0
 have HB0:=zh hk.1
 have HK:=zh hk.2
 clear hk
 obtain⟨z0,z1,z2⟩:=HK.out W0 (Below.refl _ _)
 go_enter Tryz.func71,Tryz.ntmps71
 go_wp2_with fail
 refine(HSH.out _ HB0.out).mono ?_
 rintro e w1 ⟨rfl,hb1⟩
 clear z0 z1 z2
 have HB1:Hid (Below W0.heap.size W0 w1):=hb1
 obtain⟨W2,hW2⟩:=zx (w1.alloc (.cells #[.pointer none,.slice none 0 0] 222))
 have HB2:Hid (Below W0.heap.size W0 W2):=by rw[←hW2]; exact bl1 HB1.out _
 have hz2:W2.heap[w1.heap.size]? = some (.cells #[.pointer none,.slice none 0 0] 222 (0,0)):=by rw[←hW2]; exact q5z w1 _
 have hs2:W2.heap.size=w1.heap.size+1:=by rw[←hW2]; simp
 have HBd:Hid (Bld (w1.heap.size+1) w1.heap.size (TX 0) W2):=by rw[HT0.out]; exact Bld.fresh (by omega) hz2
 have HS2:Hid (w1.heap.size+1≤W2.heap.size):=by rw[hs2]; exact Nat.le_refl _
 have HG:Hid (W0.heap.size≤w1.heap.size):=HB1.out.size
 clear hb1 hz2 hs2
 go_wp2_with fail
 clear hW2
 go_loopw [15] (fun i wr=>∃k:Nat,k≤N∧i = .int .i64 (k:Int)∧Hid (Bld (w1.heap.size+1) w1.heap.size (TX k) wr)∧Hid (Below W0.heap.size W0 wr)∧Hid (w1.heap.size+1≤wr.heap.size)) (fun i _=>N-(intOf i).toNat)
 case atStart=>exact⟨0,Nat.zero_le _,rfl,HBd,HB2,HS2⟩
 case round=>
  obtain⟨k,hk,rfl,HBl,HB,HSz⟩:=hrel
  by_cases hlt:k<N
  ·obtain⟨b,o,x,rfl,hb,hx,hc⟩:=HF.out k hlt
   have c0:wr.cell? ⟨b,o+k,none⟩=some (.string x):=((blN HB0.out HB.out).cell (p:=⟨b,o+k,none⟩) hb).trans hc
   obtain⟨z0,z1,z2⟩:=HK.out wr HB.out
   have HLi:=zh (HLINE.out k x hx)
   have hle:=HLLE.out k x hx
   have hsn:=HSN.out k x hx
   have htl:=HTLE.out k (by rw[←HN.out]; omega)
   have hN:=HL.out
   rw[←HN.out] at hN
   obtain⟨LX,hLX⟩:=zx (F k x)
   rw[hLX] at HLi hle hsn
   have HX:=zh hx
   have HSN2:=zh hsn
   have hlim:(TX k).length+LX.length+1≤140737488355328:=by omega
   have HLim:=zh hlim
   clear hx hc hb hLX hle hsn htl hN hlim
   go_wp2_with fail
   refine(HLi.out _ (blN HB0.out HB.out)).mono ?_
   rintro e w3 ⟨rfl,hb3⟩
   have HB3:=zh (blN HB.out hb3)
   have hbd3:=HBl.out.below hb3
   have HSz3:Hid (w1.heap.size+1≤w3.heap.size):=Nat.le_trans HSz.out hb3.size
   have HW3:=zh (btext_any _ _ _ (ofL LX) w3 hbd3 (by rw[q9z]; have:=HLim.out; omega) HSz3.out)
   clear c0 z0 z1 z2 hb3 hbd3
   go_wp2_with fail
   refine HW3.out.mono ?_
   rintro e w4 ⟨rfl,hbd4,hk4⟩
   rw[q22z] at hbd4
   have HB4:=zh (HB3.out.trans (hk4.below HG.out (by have:=HG.out; omega)))
   have HSz4:Hid (w1.heap.size+1≤w4.heap.size):=Nat.le_trans HSz3.out hk4.size
   have hw4:=bbyte_any _ _ _ 10 w4 hbd4 (by rw[List.length_append]; have:=HLim.out; omega) HSz4.out
   change Calls _ _ #[_,.int .u8 10] _ _ at hw4
   have HW4:=zh hw4
   clear hbd4 hk4 hw4 HW3
   go_wp2_with fail
   refine HW4.out.mono ?_
   rintro e w5 ⟨rfl,hbd5,hk5⟩
   rw[←HSN2.out] at hbd5
   have HB5:=zh (HB4.out.trans (hk5.below HG.out (by have:=HG.out; omega)))
   have HSz5:Hid (w1.heap.size+1≤w5.heap.size):=Nat.le_trans HSz4.out hk5.size
   have HBd5:=zh hbd5
   clear hbd5 hk5 HW4
   go_wp2
   go_roundw
   case rel=>exact⟨k+1,by omega,by go_num,HBd5,HB5,HSz5⟩
   case measure=>simp[intOf]; omega
  ·obtain rfl:k=N:=by omega
   have HSt:=zh (bstring_any _ _ _ wr HBl.out (by have:=HSz.out; omega))
   go_wp2_with fail
   refine HSt.out.mono ?_
   rintro e w2 ⟨rfl,hb2⟩
   have HB2:=zh (HB.out.trans (hb2.mono HG.out))
   clear hb2
   go_wp2
   first | exact HYes.out _ (blN HB0.out HB2.out) | (go_ret2; exact HYes.out _ (blN HB0.out HB2.out))
def q138z (g:Sp.Geom) (a:Int) (s:ByteArray) (w:World) (e:Ending) (w':World):Prop:=
 e = .returned (.tuple #[.string (lineN g a s),.int .i64 (lineC g a s)])∧Below w.heap.size w w'
theorem dLine_any (w:World) (g:Sp.Geom) (a:Int) (s:ByteArray) (ht:TabOk w) (hm:MaxOk w) :
 Calls Tryz.prog 19 #[gV g,.int .i64 a,.string s] w (q138z g a s w):=by
 by_cases hok:g.ok∧0≤a∧a<g.size∧s.size=64
 ·obtain⟨hg,h0,h1,hs⟩:=hok
  have hsz:=Geom.size_bd hg
  obtain⟨a,rfl⟩:∃n:Nat,a=(n:Int):=⟨a.toNat,by omega⟩
  refine(dLine_of w g a s hg h1 (by omega) hs ht (tell_leased hg (by omega) hs ht) (tell_listed hs ht hm)).mono fun e w' h=>?_
  have hc:lineC g (a:Int) s=0:=if_pos ⟨hg,h0,h1,hs⟩
  refine⟨?_,h.2⟩
  unfold lineN
  rw[hc,if_pos rfl]
  exact h.1
 have HNo:Hid (∀w',Below w.heap.size w w'→q138z g a s w (.returned (.tuple #[.string ⟨#[]⟩,.int .i64 4])) w'):=fun w' hb=>by
  have hc:lineC g a s=4:=if_neg hok
  unfold q138z lineN
  rw[hc,if_neg (by decide)]
  exact⟨rfl,hb⟩
 obtain⟨Q,hQ⟩:=zx (q138z g a s w)
 rw[hQ] at HNo ⊢
 clear hQ ht hm
 have hch:=fun W:World=>q44z W g
 have hsi:=fun W:World=>q83z W g
 by_cases hg:g.ok
 rotate_left
 ·rw[Geom.check_no hg] at hch
  clear hok hg hsi
  obtain⟨ga,gb,gc⟩:=g
  unfold gV at hch ⊢
  have HCH:=zh hch
  clear hch
  obtain⟨W0,hW0⟩:=zg w ga gb gc
  have hk:=q14z hW0
  have HB0:=zh hk.1
  have HK:=zh hk.2
  clear hk
  obtain⟨z0,z1,z2⟩:=HK.out W0 (Below.refl _ _)
  go_enter Tryz.func19,Tryz.ntmps19
  go_wp2_with fail
  refine(HCH.out _).mono ?_
  rintro e w1 ⟨rfl,hb1⟩
  have HB1:=zh (blN (Below.refl _ _) hb1)
  clear hb1
  clear z0 z1 z2
  go_wp2
  first | exact HNo.out _ (blN HB0.out HB1.out) | (go_ret2; exact HNo.out _ (blN HB0.out HB1.out))
 rw[Geom.check_ok hg] at hch
 by_cases h0:a<0
 ·clear hok hg hsi
  have f1:decide (a<0)=true:=decide_eq_true h0
  obtain⟨ga,gb,gc⟩:=g
  unfold gV at hch ⊢
  have HCH:=zh hch
  clear hch
  obtain⟨W0,hW0⟩:=zg w ga gb gc
  have hk:=q14z hW0
  have HB0:=zh hk.1
  have HK:=zh hk.2
  clear hk
  obtain⟨z0,z1,z2⟩:=HK.out W0 (Below.refl _ _)
  go_enter Tryz.func19,Tryz.ntmps19
  go_wp2_with fail
  refine(HCH.out _).mono ?_
  rintro e w1 ⟨rfl,hb1⟩
  have HB1:=zh (blN (Below.refl _ _) hb1)
  clear hb1
  clear z0 z1 z2
  go_wp2
  first | exact HNo.out _ (blN HB0.out HB1.out) | (go_ret2; exact HNo.out _ (blN HB0.out HB1.out))
 have hz:g.size≤a∨a<g.size∧s.size≠64:=by
  by_cases h:a<g.size
  ·exact Or.inr ⟨h,fun h2=>hok ⟨hg,by omega,h,h2⟩⟩
  ·exact Or.inl (by omega)
 obtain⟨z,hz0⟩:=zx (g.size)
 rw[hz0] at hsi hz
 have f1:decide (a<0)=false:=decide_eq_false h0
 clear hok hg hz0
 obtain⟨ga,gb,gc⟩:=g
 unfold gV at hch hsi ⊢
 have HCH:=zh hch
 have HSI:=zh hsi
 clear hch hsi
 obtain⟨W0,hW0⟩:=zg w ga gb gc
 have hk:=q14z hW0
 have HB0:=zh hk.1
 have HK:=zh hk.2
 clear hk
 by_cases h1:z≤a
 ·have f2:decide (a≥z)=true:=decide_eq_true h1
  have f2':decide (z≤a)=true:=decide_eq_true h1
  obtain⟨z0,z1,z2⟩:=HK.out W0 (Below.refl _ _)
  go_enter Tryz.func19,Tryz.ntmps19
  go_wp2_with fail
  refine(HCH.out _).mono ?_
  rintro e w1 ⟨rfl,hb1⟩
  have HB1:=zh (blN (Below.refl _ _) hb1)
  clear hb1
  clear z0 z1 z2
  obtain⟨z0,z1,z2⟩:=HK.out w1 HB1.out
  go_wp2_with fail
  refine(HSI.out _).mono ?_
  rintro e w2 ⟨rfl,hb2⟩
  have HB2:=zh (blN HB1.out hb2)
  clear hb2
  clear z0 z1 z2
  go_wp2
  first | exact HNo.out _ (blN HB0.out HB2.out) | (go_ret2; exact HNo.out _ (blN HB0.out HB2.out))
 ·have f2:decide (a≥z)=false:=decide_eq_false h1
  have f2':decide (z≤a)=false:=decide_eq_false h1
  have hs:s.size≠64:=by
   rcases hz with h | h
   ·exact absurd h h1
   ·exact h.2
  have f3:((s.size:Int) == 64)=false:=beq_eq_false_iff_ne.2 (by omega)
  have f4:((s.size:Int) != 64)=true:=by rw[bne,f3]; rfl
  obtain⟨z0,z1,z2⟩:=HK.out W0 (Below.refl _ _)
  go_enter Tryz.func19,Tryz.ntmps19
  go_wp2_with fail
  refine(HCH.out _).mono ?_
  rintro e w1 ⟨rfl,hb1⟩
  have HB1:=zh (blN (Below.refl _ _) hb1)
  clear hb1
  clear z0 z1 z2
  obtain⟨z0,z1,z2⟩:=HK.out w1 HB1.out
  go_wp2_with fail
  refine(HSI.out _).mono ?_
  rintro e w2 ⟨rfl,hb2⟩
  have HB2:=zh (blN HB1.out hb2)
  clear hb2
  clear z0 z1 z2
  go_wp2
  first | exact HNo.out _ (blN HB0.out HB2.out) | (go_ret2; exact HNo.out _ (blN HB0.out HB2.out))
end
def wkG:Sp.Geom:=⟨1,2,3⟩
theorem wk_ok:wkG.ok:=by decide +kernel
theorem wk_code:(textN wkG (q79z wkG)).2=0:=by decide +kernel
theorem wk_text:((textN wkG (q79z wkG)).1.data.toList.take 14)=[48,32,115,117,112,101,114,32,49,32,50,32,51,10]:=by decide +kernel
theorem wk_size:14<(textN wkG (q79z wkG)).1.size:=by decide +kernel
section
theorem works31_any (w:World) (ht:TabOk w) (hm:MaxOk w):Calls Tryz.prog 15 #[] w fun e w'=>e = .returned (.bool true)∧Below w.heap.size w w':=by
 have hfm:=fun W:World=>aformat_any W wkG
 unfold q90z at hfm
 rw[if_pos wk_ok,Geom.check_ok wk_ok] at hfm
 have htx:=fun(W:World) (v:Value) (hv:Texts W v (q79z wkG)) (ht:TabOk W) (hm:MaxOk W)=>dtext_any W wkG v (q79z wkG) hv ht hm
 unfold q89z at htx
 rw[wk_code] at htx
 have h1:=wk_text
 have h2:=wk_size
 obtain⟨T,hT⟩:=zx ((textN wkG (q79z wkG)).1)
 rw[hT] at htx h1 h2
 obtain⟨L,hL⟩:=zx (q79z wkG)
 rw[hL] at hfm htx
 have h3:(14:Int)<(T.size:Int):=by omega
 have h4:decide ((T.size:Int) > 14)=true:=decide_eq_true h3
 unfold wkG gV at hfm htx
 have HT:=zh ht
 have HM:=zh hm
 have H1:=zh h1
 clear hT hL ht hm h1
 have HFM:=zh hfm
 have HTX:=zh htx
 clear hfm htx
 go_enter Tryz.func15,Tryz.ntmps15
 obtain⟨W0,hW0⟩:=zg w 1 2 3
 have hk:=q14z hW0
 have HB0:=zh hk.1
 have HK:=zh hk.2
 clear hk
 obtain⟨z0,z1,z2⟩:=HK.out W0 (Below.refl _ _)
 go_wp2_with fail
 clear z0 z1 z2
 refine(HFM.out _).mono ?_
 rintro e w1 ⟨v,rfl,ho,hb1⟩
 have HB1:Hid (Below W0.heap.size W0 w1):=hb1
 have HO:=zh (q19z.texts ho)
 clear hb1 ho
 obtain⟨z0,z1,z2⟩:=HK.out w1 HB1.out
 go_wp2_with fail
 clear z0 z1 z2
 refine(HTX.out _ _ HO.out (HT.out.below (blN HB0.out HB1.out)) (HM.out.below (blN HB0.out HB1.out))).mono ?_
 rintro e w2 ⟨rfl,hb2⟩
 have HB2:=zh (blN (blN HB0.out HB1.out) hb2)
 clear hb2
 have fx:((T.extract 0 14).toList == [48,32,115,117,112,101,114,32,49,32,50,32,51,10])=true:=by
  rw[Lib.toList_data,ByteArray.data_extract,Array.toList_extract]
  have h:=H1.out
  simp only[List.extract_eq_take_drop,List.drop_zero,Nat.sub_zero]
  rw[h]
  rfl
 go_wp2
 go_ret
 exact⟨rfl,HB2.out⟩
end
