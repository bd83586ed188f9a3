import Derived.Test.YtgofmnhfajmbfaaGreatDoorDumpDiff
import Derived.Test.YtgofmnhfajmbfaaGreatDoorSpTurned
namespace Go.Proofs.YtgofmnhfajmbfaaGreatDoor
open Go Go.RowKit Txt Sp
theorem turned_ne {l:List UInt8} {r:Nat} {v:UInt8} (hr:r<l.length) (hv:v≠l[r]):l.set r v≠l:=fun h=>hv (by
 have:=congrArg (fun m:List UInt8=>m[r]?) h
 simp only[List.getElem?_set_self hr,List.getElem?_eq_getElem hr,Option.some.injEq] at this
 exact this)
theorem marked_free {w:World} {b n m j:Nat} {cs:Array Value} {e:TypeId} (h:w.heap[b]? = some (.cells cs e (n,m))) (hj:j<n):w.frozen? ⟨b,j,none⟩=false:=by
 simp only[World.frozen?,h]
 simp
 omega
theorem texts_srcT {w:World} {ad:Option Addr} {n cap:Nat} {l:List ByteArray} (h:Texts w (.slice ad n cap) l):∀a,ad=some a→∀j u,(l.map Value.string)[j]? = some u→w.cell? (a.add j)=some u:=by
 obtain⟨ad',cap',hv,h1,h2,h3⟩:=h
 intro a ha j u hu
 have hj:j<l.length:=by have:=(List.getElem?_eq_some_iff.1 hu).1; rwa [List.length_map] at this
 obtain⟨b,o,hb,hlt,hc⟩:=h3 (by omega)
 cases hv
 subst ha
 cases hb
 have hx:=List.getElem?_eq_getElem hj
 rw[List.getElem?_map,hx] at hu
 have e:Value.string l[j]=u:=Option.some.inj hu
 rw[←e,show(⟨b,o,none⟩:Addr).add j=⟨b,o+j,none⟩ by unfold Addr.add; split <;> simp_all]
 exact hc j _ hx
theorem turned_text2 {w:World} {b cap:Nat} {t:ByteArray} {e:TypeId} {fr:Nat×Nat} {r:Nat} {v:UInt8} (h:w.heap[b]? = some (.cells ((bytesRow t cap).setIfInBounds r (.int .u8 (v.toNat:Int))) e fr)) (he:Tryz.prog.underlying e=some (.int .u8)) (hs:Tryz.prog.underlying 47=some (.slice e)) (c:Nat) :
 (convert 47 9 (.slice (some ⟨b,0,none⟩) t.size c)).run Tryz.prog w = .ok (.string (ofL (t.data.toList.set r v))) w:=by
 have hts:t.data.toList.length=t.size:=rfl
 have hs2:t.data.size=t.size:=rfl
 have hlen:(t.data.toList.set r v).length=t.size:=by rw[List.length_set]; exact hts
 have:=run_convert_bytes_back (P:=Tryz.prog) w 47 9 e ⟨b,0,none⟩ c (t.data.toList.set r v) hs he Tryz.underlying9 (fun j hj=>by
  have hadd:(⟨b,0,none⟩:Addr).add j=⟨b,j,none⟩:=by unfold Addr.add; split <;> simp_all
  rw[hadd]
  refine cellOf h ?_
  rw[hlen] at hj
  rw[Array.getElem?_setIfInBounds]
  by_cases hjr:r=j
  ·subst hjr
   rw[if_pos rfl,if_pos (by unfold bytesRow; simp; omega)]
   simp
  ·rw[if_neg hjr,bytesRow_at t cap j (by omega)]
   simp[hjr])
 rw[hlen] at this
 exact this
theorem pre_line (a b:UInt8) (L:List UInt8):(⟨#[a,b]⟩:ByteArray) ++ ofL L=ofL (a :: b :: L):=Txt.ext (by simp[ofL])
section
set_option maxHeartbeats 8000000
set_option maxRecDepth 20000 in
theorem dumpTurned_any (w:World) (g:Sp.Geom) (v:Value) (l:List ByteArray) (x y:Int) (hv:Texts w v l) (ht:TabOk w) (hm:MaxOk w) :
 Calls Tryz.prog 4 #[gV g,v,.agg #[.int .i64 x,.int .i64 y]] w fun e w'=>e = .returned (.bool true)∧Below w.heap.size w w':=by
 have hwk:=fun(W:World) (hW:Below w.heap.size w W)=>works31_any W (ht.below hW) (hm.below hW)
 by_cases hsh:q27z g l
 rotate_left
 ·have hdk:=fun(W:World) (hW:Below w.heap.size w W)=>tdiskNo_any W g v l (hv.below hW) hsh
  have hdf:=fun(W:World) (hW:Below w.heap.size w W)=>ddiff_any W g v v l l (hv.below hW) (hv.below hW) (ht.below hW) (hm.below hW)
  unfold q86z at hdf
  have hdn:diffN g l l=([],4):=if_neg (fun h=>hsh h.1)
  simp only[hdn] at hdf
  obtain⟨ga,gb,gc⟩:=g
  unfold gV at hdk hdf ⊢
  have HWK:=zh hwk
  have HDK:=zh hdk
  have HDF:=zh hdf
  clear hwk hdk hdf
  clear hsh hdn hv ht hm
  obtain⟨W0,hW0⟩:=zg w ga gb gc
  have hk:=q14z hW0
  have HB0:=zh hk.1
  have HK:=zh hk.2
  clear hk
  obtain⟨W1,hW1⟩:=zx (W0.alloc (.cells #[.int .i64 x,.int .i64 y] 41))
  have HB1:Hid (Below W0.heap.size W0 W1):=by rw[←hW1]; exact bl2 _
  go_enter Tryz.func4,Tryz.ntmps4
  go_wp2_with fail
  refine(HWK.out _ (blN HB0.out HB1.out)).mono ?_
  rintro e w2 ⟨rfl,hb2⟩
  have HB2:=zh (blN HB1.out hb2)
  clear hb2
  obtain⟨z0,z1,z2⟩:=HK.out w2 HB2.out
  go_wp2_with fail
  clear z0 z1 z2
  refine(HDK.out _ (blN HB0.out HB2.out)).mono ?_
  rintro e w3 ⟨rfl,hb3⟩
  have HB3:=zh (blN HB2.out hb3)
  clear hb3
  obtain⟨z0,z1,z2⟩:=HK.out w3 HB3.out
  go_wp2_with fail
  clear z0 z1 z2
  refine(HDF.out _ (blN HB0.out HB3.out)).mono ?_
  rintro e w4 ⟨lv,rfl,ho4,hb4⟩
  have HB4:=zh (blN HB3.out hb4)
  obtain⟨ad4,n4,cap4,rfl,hn4,-,-⟩:=q26z ho4.texts
  obtain rfl:n4=0:=hn4.out
  clear hb4 ho4 hn4
  go_wp2
  go_ret
  exact⟨rfl,blN HB0.out HB4.out⟩
 have hdk:=fun(W:World) (hW:Below w.heap.size w W)=>tdiskYes_any W g v l (hv.below hW) hsh (hm.below hW)
 have hz:=Geom.size_bd hsh.1
 obtain⟨ad,n,cap,rfl,HN,hn2,HF⟩:=q26z hv
 have hng:(n:Int)=g.size:=by rw[HN.out]; exact hsh.2.1
 have hn0:0<n:=by omega
 have hn9:n≤403:=by omega
 obtain⟨r,hr⟩:∃r:Nat,q113z x n=(r:Int):=⟨(q113z x n).toNat,by have:=amongJ_bd x n hn0; omega⟩
 obtain⟨q,hq⟩:∃q:Nat,q113z y 64=(q:Int):=⟨(q113z y 64).toNat,by have:=amongJ_bd y 64 (by decide); omega⟩
 have hrl:r<n:=by have:=amongJ_bd x n hn0; omega
 have hql:q<64:=by have:=amongJ_bd y 64 (by decide); omega
 have ha0:=fun W:World=>amongJ_any W x n hn0 (by omega)
 have ha1:=fun W:World=>show Calls Tryz.prog 18 #[.int .i64 y,.int .i64 64] W (fun e w'=>e = .returned (.int .i64 (q113z y 64))∧w' = W) from amongJ_any W y 64 (by decide) (by decide)
 rw[hr] at ha0
 rw[hq] at ha1
 obtain⟨bs,o,s,rfl,hbs,hx,hc⟩:=HF.out r hrl
 have hs64:s.size=64:=hsh.2.2 s (List.mem_of_getElem? hx)
 have hqs:q<s.size:=by omega
 obtain⟨c,hcb⟩:∃c:UInt8,s[q]'hqs=c:=⟨_,rfl⟩
 obtain⟨vv,hvv⟩:∃v:UInt8,v.toNat=(c.toNat+1) % 256:=⟨UInt8.ofNat ((c.toNat+1) % 256),by simp⟩
 have hvc:vv≠c:=fun h=>by
  rw[h] at hvv
  have:=c.toNat_lt
  omega
 have hel:s.data.toList[q]? = some c:=by rw[at_data s q hqs,hcb]
 obtain⟨U,hU⟩:=zx (ofL (s.data.toList.set q vv))
 have hUs:U.size=64:=by rw[←hU,q9z,List.length_set]; exact hs64
 have hne:U≠s:=fun h=>by
  rw[←hU] at h
  have h2:=congrArg (fun b:ByteArray=>b.data.toList) h
  simp only[q22z] at h2
  have hrl2:q<s.data.toList.length:=hqs
  refine turned_ne hrl2 (v:=vv) (fun he=>hvc ?_) h2
  rw[he]
  rw[List.getElem?_eq_getElem hrl2] at hel
  exact Option.some.inj hel
 obtain⟨l2,hl2⟩:=zx (l.set r U)
 have hsh2:q27z g l2:=by
  rw[←hl2]
  refine⟨hsh.1,by rw[List.length_set]; exact hsh.2.1,fun t ht=>?_⟩
  rcases List.mem_or_eq_of_mem_set ht with ht | rfl
  ·exact hsh.2.2 t ht
  ·exact hUs
 obtain⟨X,hX⟩:=zx (lineN g (r:Int) s)
 obtain⟨Y,hY⟩:=zx (lineN g (r:Int) U)
 have hc1:lineC g (r:Int) s=0:=if_pos ⟨hsh.1,by omega,by omega,hs64⟩
 have hc2:lineC g (r:Int) U=0:=if_pos ⟨hsh.1,by omega,by omega,hUs⟩
 have hX2:X=ofL (lineL g (r:Int) s):=by rw[←hX]; unfold lineN; rw[if_pos hc1]
 have hY2:Y=ofL (lineL g (r:Int) U):=by rw[←hY]; unfold lineN; rw[if_pos hc2]
 have hl1:¬9223372036854775807<2+X.size:=by
  have:=lineL_le (a:=r) hsh.1 (by omega) hs64
  rw[hX2,q9z]
  omega
 have hl2':¬9223372036854775807<2+Y.size:=by
  have:=lineL_le (a:=r) hsh.1 (by omega) hUs
  rw[hY2,q9z]
  omega
 have hXY:X≠Y:=fun h=>by
  rw[hX2,hY2] at h
  have h2:=congrArg (fun b:ByteArray=>b.data.toList) h
  simp only[q22z] at h2
  exact hne (line_inj hsh.1 hs64 hUs h2).symm
 have hd1:diffN g l l=([],0):=by
  unfold diffN
  rw[if_pos ⟨hsh,hsh⟩,diff_same]
 have hd2:diffN g l l2=([⟨#[45,32]⟩ ++ X,⟨#[43,32]⟩ ++ Y],0):=by
  unfold diffN
  rw[if_pos ⟨hsh,hsh2⟩,←hl2,diff_set g l 0 r s hx (fun h=>hne h.symm),hX2,hY2,pre_line,pre_line,Nat.zero_add]
 have hdf:=fun(W:World) (hW:Below w.heap.size w W)=>ddiff_any W g _ _ l l (hv.below hW) (hv.below hW) (ht.below hW) (hm.below hW)
 have hde:=fun(W:World) (u:Value) (hu:Texts W u l2) (hW:Below w.heap.size w W)=>ddiff_any W g _ u l l2 (hv.below hW) hu (ht.below hW) (hm.below hW)
 have hln:=fun(W:World) (hW:Below w.heap.size w W)=>dLine_any W g (r:Int) s (ht.below hW) (hm.below hW)
 have hlm:=fun(W:World) (hW:Below w.heap.size w W)=>dLine_any W g (r:Int) U (ht.below hW) (hm.below hW)
 unfold q86z at hdf hde
 unfold q138z at hln hlm
 simp only[hd1] at hdf
 simp only[hd2] at hde
 simp only[hX,hc1] at hln
 simp only[hY,hc2] at hlm
 have hcv:=fun W:World=>run_bytes_of_string (P:=Tryz.prog) W 9 47 5 s Tryz.underlying9 Tryz.underlying47 Tryz.underlying5
 have htt:=fun(W:World) (b cap:Nat) (fr:Nat×Nat) (h:W.heap[b]? = some (.cells ((bytesRow s cap).setIfInBounds q (.int .u8 (vv.toNat:Int))) 5 fr)) (cc:Nat)=>turned_text2 h Tryz.underlying5 Tryz.underlying47 cc
 rw[hU] at htt
 have e1:IntKind.u8.wrap ((c.toNat:Int)+1)=(vv.toNat:Int):=by
  rw[hvv]
  show((c.toNat:Int)+1) % 256=_
  omega
 have hcr:=fun cap=>bytesRow_at s cap q hqs
 have hcc:s.data[q]'hqs=c:=hcb
 simp only[hcc] at hcr
 have hbz:∀cap,q<(bytesRow s cap).size:=fun cap=>(Array.getElem?_eq_some_iff.1 (hcr cap)).1
 obtain⟨C,hC⟩:∃C:Int,(c.toNat:Int)=C:=⟨_,rfl⟩
 obtain⟨VV,hVV⟩:∃C:Int,(vv.toNat:Int)=C:=⟨_,rfl⟩
 rw[hC,hVV] at e1
 simp only[hVV] at htt
 simp only[hC] at hcr
 simp only[hs64] at htt hcv
 have HV:Hid (∀W,Below w.heap.size w W→Texts W (.slice (some ⟨bs,o,none⟩) n cap) l):=fun W hW=>hv.below hW
 have HCs:Hid (∀W,Below w.heap.size w W→W.cell? ⟨bs,o+r,none⟩=some (.string s)):=fun W hW=>(hW.cell (p:=⟨bs,o+r,none⟩) hbs).trans hc
 have HL2:=zh hl2
 have hri:(r:Int)<(n:Int):=by omega
 have hqi:(q:Int)<64:=by omega
 have k1:(X.toList == Y.toList)=false:=(text_eq X Y).trans (decide_eq_false hXY)
 obtain⟨ia,ib,ic,id,ie⟩:=info_parts Tryz.infoText
 obtain⟨ga,gb,gc⟩:=g
 unfold gV at hdk hdf hde hln hlm ⊢
 have HWK:=zh hwk
 have HDK:=zh hdk
 have HDF:=zh hdf
 have HDE:=zh hde
 have HLN:=zh hln
 have HLM:=zh hlm
 have HA0:=zh ha0
 have HA1:=zh ha1
 have HCV:=zh hcv
 have HTT:=zh htt
 have HCR:=zh hcr
 have HBZ:=zh hbz
 clear hwk hdk hdf hde hln hlm ha0 ha1 hcv htt hcr hbz
 clear hsh hz hng hn0 hr hq hbs hx hc hs64 hqs hcb hvv hvc hel hU hUs hne hl2 hsh2 hX hY hc1 hc2 hX2 hY2 hXY hd1 hd2 hC hVV hcc hv ht hm hn2 HF
 obtain⟨W0,hW0⟩:=zg w ga gb gc
 have hk:=q14z hW0
 have HB0:=zh hk.1
 have HK:=zh hk.2
 clear hk
 obtain⟨W1,hW1⟩:=zx (W0.alloc (.cells #[.int .i64 x,.int .i64 y] 41))
 have HB1:Hid (Below W0.heap.size W0 W1):=by rw[←hW1]; exact bl2 _
 have HXY:Hid (∀W,Below W1.heap.size W1 W→W.cell? ⟨W0.heap.size,0,none⟩=some (.int .i64 x)∧W.cell? ⟨W0.heap.size,1,none⟩=some (.int .i64 y)):=fun W hW=>by
  have hz:W1.heap[W0.heap.size]? = some (.cells #[.int .i64 x,.int .i64 y] 41 (0,0)):=by rw[←hW1]; exact q5z W0 _
  have:=q1z hW hz
  exact⟨zc 0 this,zc 1 this⟩
 go_enter Tryz.func4,Tryz.ntmps4
 go_wp2_with fail
 refine(HWK.out _ (blN HB0.out HB1.out)).mono ?_
 rintro e w2 ⟨rfl,hb2⟩
 have HX2:Hid (Below W1.heap.size W1 w2):=hb2
 have HB2:=zh (blN HB1.out hb2)
 clear hb2
 obtain⟨z0,z1,z2⟩:=HK.out w2 HB2.out
 go_wp2_with fail
 clear z0 z1 z2
 refine(HDK.out _ (blN HB0.out HB2.out)).mono ?_
 rintro e w3 ⟨u3,rfl,hb3⟩
 have HX3:=zh (blN HX2.out hb3)
 have HB3:=zh (blN HB2.out hb3)
 clear hb3
 obtain⟨x0,x1⟩:=HXY.out w3 HX3.out
 go_wp2_with fail
 refine(HA0.out _).mono ?_
 rintro e w4 ⟨rfl,hw4⟩
 replace hw4:=hw4.symm
 subst hw4
 have c0:=HCs.out w3 (blN HB0.out HB3.out)
 obtain⟨cp,hcp⟩:=zx (grownCap w3 64 0 5)
 have hcv4:=HCV.out w3
 rw[hcp] at hcv4
 obtain⟨W5,hW5⟩:=zx (w3.drew.alloc (.cells (bytesRow s cp) 5 ((bytesRow s cp).size,(bytesRow s cp).size+1)))
 rw[hW5] at hcv4
 have HX5:Hid (Below W1.heap.size W1 W5):=by rw[←hW5]; exact bl1 (blD HX3.out) _
 have HB5:Hid (Below W0.heap.size W0 W5):=by rw[←hW5]; exact bl1 (blD HB3.out) _
 have HB35:Hid (Below w3.heap.size w3 W5):=by rw[←hW5]; exact bl1 (blD (Below.refl _ _)) _
 have HZ5:Hid (W5.heap[w3.heap.size]? = some (.cells (bytesRow s cp) 5 ((bytesRow s cp).size,(bytesRow s cp).size+1))):=by rw[←hW5]; exact q5z w3.drew _
 clear hcp x0 x1
 have cb:=cellOf HZ5.out (HCR.out cp)
 have fb:=marked_free HZ5.out (HBZ.out cp)
 obtain⟨x0,x1⟩:=HXY.out W5 HX5.out
 obtain⟨W7,hW7⟩:=zx (W5.setCell ⟨w3.heap.size,q,none⟩ (.int .u8 VV))
 have HL7:Hid (Below w3.heap.size w3 W7):=by rw[←hW7]; exact Below.setCell (p:=⟨w3.heap.size,q,none⟩) HB35.out (Nat.le_refl _) _
 have HZ7:Hid (W7.heap[w3.heap.size]? = some (.cells ((bytesRow s cp).setIfInBounds q (.int .u8 VV)) 5 ((bytesRow s cp).size,(bytesRow s cp).size+1))):=by rw[←hW7]; exact q18z (k:=q) HZ5.out _
 have HB7:Hid (Below W0.heap.size W0 W7):=blN HB3.out HL7.out
 go_wp2_with fail
 refine(HA1.out _).mono ?_
 rintro e w6 ⟨rfl,hw6⟩
 replace hw6:=hw6.symm
 subst hw6
 go_upto_region 10 with fail
 clear x0 x1 cb fb hcv4 c0 hW5 hW7
 have HOwn:Hid ((W7.alloc (.cells #[] 9)).ownsRow W7.heap.size 9 1 (.slice (some ⟨W7.heap.size,0,none⟩) 0 0) 0 []):=OwnR.block (f:=fun s:ByteArray=>[Value.string s]) (l:=[]) (q5z W7 _) rfl rfl (Nat.le_refl _) (Nat.zero_le _)
 go_wp2_with (at_builtin; refine wpList_append_src _ rfl (.tmp 65) (.tmp 66) _ rfl W7.heap.size 9 ia _ 1 16 Tryz.underlying24 ib ic id ie rfl (by decide) _ 0 0 [] rfl HOwn.out (some ⟨bs,o,none⟩) n cap rfl (fun h=>by cases h) (l.map Value.string) ?c1 (texts_srcT (HV.out _ (bl1 (blN HB0.out HB7.out) _))) ?c3 ?c4 ?c5 ?c6 ?c7)
 case c1=>have:=HN.out; simp; omega
 case c3=>intro u hu; obtain⟨s,_,rfl⟩:=List.mem_map.1 hu; rfl
 case c4=>have:=HN.out; unfold maxLen; omega
 case c5=>have:=HN.out; omega
 case c6=>simp
 intro g8 cap8 w8 hown8 hgrow8 _
 have hb8:Below W7.heap.size W7 w8:=Below.grown (bl1 (Below.refl _ _) _) hgrow8 (bl1 (Below.refl _ _) _).size (fun q hq=>(World.ownsRow.lt HOwn.out q hq).1)
 have HB8:=zh (blN HB7.out hb8)
 have ho8:w8.ownsRow W7.heap.size 9 1 (.slice (some ⟨g8,0,none⟩) n cap8) n (l.map Value.string):=by simpa using hown8
 have HO8:=zh ho8
 clear ho8
 have hZ8:=q1z hb8 HZ7.out
 have htt8:=HTT.out w8 _ _ _ hZ8 cp
 have HS9:=zh (HO8.out.stored r (.string U)).1
 have hg8:W7.heap.size≤g8:=(World.ownsRow.lt HO8.out g8 rfl).1
 have hf8:w8.frozen? ⟨g8,r,none⟩=false:=HO8.out.frozenAt _
 obtain⟨u8,hu8⟩:∃u,(l.map Value.string)[r]? = some u:=⟨(l.map Value.string)[r]'(by rw[List.length_map]; have:=HN.out; omega),List.getElem?_eq_getElem _⟩
 have hc8:w8.cell? ⟨g8,r,none⟩=some u8:=by rw[HO8.out.cellAt r (by omega)]; exact hu8
 obtain⟨W9,hW9⟩:=zx (w8.setCell ⟨g8,r,none⟩ (.string U))
 rw[hW9] at HS9
 have HB9:Hid (Below W0.heap.size W0 W9):=by rw[←hW9]; exact Below.setCell (p:=⟨g8,r,none⟩) HB8.out (show W0.heap.size≤g8 by have:=HB7.out.size; omega) _
 have HT9:Hid (Texts W9 (.slice (some ⟨g8,0,none⟩) n cap8) l2):=by
  refine q19z.texts (n:=W7.heap.size) ⟨9,?_⟩
  have h:=HS9.out
  rw[←HL2.out,List.length_set,←HN.out,List.map_set]
  exact h
 have HCo:Hid (∀W,Below W9.heap.size W9 W→W.cell? ⟨g8,r,none⟩=some (.string U)):=fun W hW=>by
  have hx:=HS9.out.cellAt r (by omega)
  have hlt:=(World.ownsRow.lt HS9.out g8 rfl).2
  rw[hW.cell (p:=⟨g8,r,none⟩) hlt,hx,List.getElem?_set_self (by rw[List.length_map]; have:=HN.out; omega)]
 clear hown8 hgrow8 hb8 hZ8 hu8 hg8 HOwn
 obtain⟨z0,z1,z2⟩:=HK.out W9 HB9.out
 go_wp2_with fail
 clear z0 z1 z2 htt8 hc8 hf8 hW9
 with_reducible refine(HDF.out _ (blN HB0.out HB9.out)).mono ?_
 rintro e w10 ⟨lv,rfl,ho10,hb10⟩
 have HB10:=zh (blN HB9.out hb10)
 have HT10:=zh (HT9.out.below hb10)
 have HX10:Hid (Below W9.heap.size W9 w10):=hb10
 obtain⟨ad4,n4,cap4,rfl,hn4,-,-⟩:=q26z ho10.texts
 obtain rfl:n4=0:=hn4.out
 clear hb10 ho10 hn4
 obtain⟨z0,z1,z2⟩:=HK.out w10 HB10.out
 go_wp2_with fail
 clear z0 z1 z2
 with_reducible refine(HDE.out _ _ HT10.out (blN HB0.out HB10.out)).mono ?_
 rintro e w11 ⟨dv,rfl,ho11,hb11⟩
 have HB11:=zh (blN HB10.out hb11)
 have HX11:=zh (blN HX10.out hb11)
 have HD11:=zh ho11.texts
 clear hb11 ho11
 obtain⟨z0,z1,z2⟩:=HK.out w11 HB11.out
 have hbd11:Below w11.heap.size w11 w11.drew:=blD (Below.refl _ _)
 have hSd:(w11.drew.cell? ⟨w.heap.size,0,none⟩=some (.int .i64 ga)∧w11.drew.cell? ⟨w.heap.size,1,none⟩=some (.int .i64 gb)∧w11.drew.cell? ⟨w.heap.size,2,none⟩=some (.int .i64 gc))∧w11.drew.cell? ⟨bs,o+r,none⟩=some (.string s):=⟨HK.out _ (blN HB11.out hbd11),HCs.out _ (blN HB0.out (blN HB11.out hbd11))⟩
 have HBD:=zh hbd11
 clear hbd11 z0 z1 z2
 go_wp2_with fail
 refine wp_region_last (fun W=>(W.cell? ⟨w.heap.size,0,none⟩=some (.int .i64 ga)∧W.cell? ⟨w.heap.size,1,none⟩=some (.int .i64 gb)∧W.cell? ⟨w.heap.size,2,none⟩=some (.int .i64 gc))∧W.cell? ⟨bs,o+r,none⟩=some (.string s)) 6 (by kernel_rfl) (by first | trivial | assumption) (fun hHeld hX0=>?_)
 refine tkU 0 ?_; clear hX0; intro hX0; simp only[Act.put,ps0]
 refine tkU 1 ?_; clear hX0; intro hX0; simp only[Act.put,ps0]
 refine tkU 2 ?_; clear hX0; intro hX0; simp only[Act.put,ps0]
 refine tkU 3 ?_; clear hX0; intro hX0; simp only[Act.put,ps0]
 refine tkU 4 ?_; clear hX0; intro hX0; simp only[Act.put,ps0]
 refine tkU 5 ?_; clear hX0; intro hX0; simp only[Act.put,ps0]
 refine AnyU.each (is:=[6]) (by kernel_rfl) (by simp) (EachU.cons hX0 (by kernel_rfl) rfl (fun K hK=>?_) EachU.nil)
 try simp only[gg0]
 go_simp
 refine(HLN.out _ (blN HB0.out (blN HB11.out HBD.out))).mono ?_
 rintro e w12 ⟨rfl,hb12⟩
 have HB12:=zh (blN HB11.out (blN HBD.out hb12))
 have HX12:=zh (blN HX11.out (blN HBD.out hb12))
 have HD12:=zh (HD11.out.below (blN HBD.out hb12))
 clear hb12
 try simp only
 refine hK.out _ _ (fun h=>absurd h (by decide)) (fun _ hX1=>?_)
 clear hK K hX0; have hX0:=hX1; clear hX1
 try simp only[Act.put,ps0]
 refine pkU 7 ?_; clear hX0; intro hX0; simp only[Act.put,ps0]
 refine pkU 8 ?_; clear hX0; intro hX0; simp only[Act.put,ps0]
 refine pkU 9 ?_; clear hX0; intro hX0; simp only[Act.put,ps0]
 refine pkU 10 ?_; clear hX0; intro hX0; simp only[Act.put,ps0]
 refine pkU 11 ?_; clear hX0; intro hX0; simp only[Act.put,ps0]
 refine AnyU.done (by kernel_rfl) ?_ _
 clear hHeld hX0 hSd
 have hbd12:Below w12.heap.size w12 w12.drew:=blD (Below.refl _ _)
 have hSd:(w12.drew.cell? ⟨w.heap.size,0,none⟩=some (.int .i64 ga)∧w12.drew.cell? ⟨w.heap.size,1,none⟩=some (.int .i64 gb)∧w12.drew.cell? ⟨w.heap.size,2,none⟩=some (.int .i64 gc))∧w12.drew.cell? ⟨g8,r,none⟩=some (.string U):=⟨HK.out _ (blN HB12.out hbd12),HCo.out _ (blN HX12.out hbd12)⟩
 have HBE:=zh hbd12
 clear hbd12
 go_wp2_with fail
 refine wp_region_last (fun W=>(W.cell? ⟨w.heap.size,0,none⟩=some (.int .i64 ga)∧W.cell? ⟨w.heap.size,1,none⟩=some (.int .i64 gb)∧W.cell? ⟨w.heap.size,2,none⟩=some (.int .i64 gc))∧W.cell? ⟨g8,r,none⟩=some (.string U)) 6 (by kernel_rfl) (by first | trivial | assumption) (fun hHeld hX0=>?_)
 refine tkU 0 ?_; clear hX0; intro hX0; simp only[Act.put,ps0]
 refine tkU 1 ?_; clear hX0; intro hX0; simp only[Act.put,ps0]
 refine tkU 2 ?_; clear hX0; intro hX0; simp only[Act.put,ps0]
 refine tkU 3 ?_; clear hX0; intro hX0; simp only[Act.put,ps0]
 refine tkU 4 ?_; clear hX0; intro hX0; simp only[Act.put,ps0]
 refine tkU 5 ?_; clear hX0; intro hX0; simp only[Act.put,ps0]
 refine AnyU.each (is:=[6]) (by kernel_rfl) (by simp) (EachU.cons hX0 (by kernel_rfl) rfl (fun K hK=>?_) EachU.nil)
 try simp only[gg0]
 go_simp
 refine(HLM.out _ (blN HB0.out (blN HB12.out HBE.out))).mono ?_
 rintro e w13 ⟨rfl,hb13⟩
 have HB13:=zh (blN HB12.out (blN HBE.out hb13))
 have HD13:=zh (HD12.out.below (blN HBE.out hb13))
 clear hb13
 try simp only
 refine hK.out _ _ (fun h=>absurd h (by decide)) (fun _ hX1=>?_)
 clear hK K hX0; have hX0:=hX1; clear hX1
 try simp only[Act.put,ps0]
 refine pkU 7 ?_; clear hX0; intro hX0; simp only[Act.put,ps0]
 refine pkU 8 ?_; clear hX0; intro hX0; simp only[Act.put,ps0]
 refine pkU 9 ?_; clear hX0; intro hX0; simp only[Act.put,ps0]
 refine pkU 10 ?_; clear hX0; intro hX0; simp only[Act.put,ps0]
 refine pkU 11 ?_; clear hX0; intro hX0; simp only[Act.put,ps0]
 refine AnyU.done (by kernel_rfl) ?_ _
 clear hHeld hX0 hSd
 obtain⟨LA,hLA⟩:∃X0:ByteArray,⟨#[45,32]⟩ ++ X=X0:=⟨_,rfl⟩
 obtain⟨LB,hLB⟩:∃X0:ByteArray,⟨#[43,32]⟩ ++ Y=X0:=⟨_,rfl⟩
 rw[hLA,hLB] at HD13
 obtain⟨W14,hW14⟩:=zx (w13.alloc (.cells #[.string LA,.string LB] 9))
 have hb14:Below w13.heap.size w13 W14:=by rw[←hW14]; exact bl2 _
 have HU14:Hid (Texts W14 (.slice (some ⟨w13.heap.size,0,none⟩) 2 2) [LA,LB]):=by
  have h:=OwnR.block (f:=fun s:ByteArray=>[Value.string s]) (base:=w13.heap.size) (l:=[LA,LB]) (e:=9) (size:=1) (show W14.heap[w13.heap.size]? = _ by rw[←hW14]; exact q5z w13 _) rfl rfl (Nat.le_refl _) (show(2:Nat)≤maxLen by decide)
  exact q19z.texts (n:=w13.heap.size) ⟨_,h⟩
 have HD14:=zh (HD13.out.below hb14)
 have HB14:=zh (blN HB13.out hb14)
 clear hb14
 go_wp2_with fail
 with_reducible refine(sameTexts_yes _ _ [LA,LB] _ HD14.out HU14.out).mono ?_
 rintro e w15 ⟨rfl,hb15⟩
 have HB15:=zh (blN HB14.out hb15)
 clear hb15 hW14
 go_wp2
 go_ret
 exact⟨rfl,blN HB0.out HB15.out⟩
end
