/-
 Layer 16 as plain data: a block is taken and named,a block is named no more and freed: what the disk itself may have. No program in this text.
-/
import Derived.Test.YtgofmnhfajmbfaaGreatDoorSpSoundOps
namespace Go.Proofs.YtgofmnhfajmbfaaGreatDoor.Sp
open Go Txt
section
variable {g:Geom} {i j:Int} {F FK G GK:File} {A A':AllT} {V V' V0:Int→ByteArray} {X Y:List Int} {r:Nat} {S S1 S2 S3:Side} {K:Nat→Bool} {k:Int} {p:Nat} {x:ByteArray}
theorem ov_self (s o n:Int) (hn:0<n):ovT s o n s o n:=⟨rfl,by omega⟩
theorem zero_size:((zeroB.size:Nat):Int)=1:=rfl
theorem q112z (b:Int):(((putB 2 b).size:Nat):Int)=2:=by rw[(putB2 b).2]; rfl
theorem more_ing (h:Bm2 g i j S F G X Y r) (h0:F.more≠0):∃k p,InG g k p∧F.more=q2z g k p:=h.a.ing (h.a.own _ (q6z.2 ⟨Or.inl rfl,h0⟩))
theorem ptr_sec (hg:g.ok) (h:Bm2 g i j S F G X Y r) {q:Nat} (hmo:8≤q→F.more≠0):(∀k,q7z g i F q≠q3z g k true)∧q7z g i F q≠q1z g j∧(q7z g i F q=q1z g i∨∃k p,InG g k p∧q7z g i F q=q2z g k p∧F.more=q2z g k p∧8≤q):=by
 unfold q7z
 split
 ·exact⟨fun k=>q21z hg k true,h.apart,Or.inl rfl⟩
 ·rename_i h8
  obtain⟨k0,p0,hin,e⟩:=more_ing h (hmo (by omega))
  rw[e]
  exact⟨fun k=>q51z hg ⟨by omega,hin.2⟩ k true,fun e=>q27z hg ⟨by omega,hin.2⟩ e.symm,Or.inr ⟨k0,p0,hin,rfl,rfl,by omega⟩⟩
theorem ptr_other (hg:g.ok) (h:Bm2 g i j S F G X Y r) (c:CrashV g i j F G V0 A V FK GK) {q:Nat} (hq:q<40) (hmo:8≤q→F.more≠0) (ha:A (ovT (q7z g i F q) (q9z q) 2)) (h0:GK.more≠0):q7z g i F q≠GK.more:=fun e=>by
 obtain⟨kG,pG,hinG,eG,_⟩:=c.s.blk _ (q6z.2 ⟨Or.inl rfl,h0⟩)
 rcases(ptr_sec hg h hmo).2.2 with e1 | ⟨k0,p0,hin,e1,e2,h8⟩
 ·exact q27z hg ⟨by omega,hinG.2⟩ (e1.symm.trans (e.trans eG))
 ·have hb0:=q26z hg hin
  have hbF:q2z g k0 p0∈F.all:=q6z.2 ⟨Or.inl e2.symm,hb0⟩
  have hpo:q9z q=2*(q-8):=if_neg (by omega)
  rw[e1,hpo] at ha
  have hbit:=c.kf.data k0 p0 hin hbF _ 2 (by omega) (by omega) (by omega) ha
  have:=(c.s.cur k0 p0 hin hbit).2 (by rw[←e,e1])
  exact h.dis _ hbF (q6z.2 ⟨Or.inl this.symm,hb0⟩)
theorem crash_name (h:Bm2 g i j S F G X Y r) (hg:g.ok) (hin:InG g k p) (hY:q2z g k p∉Y) (hx:x.size=64) (hc1:S.changeC (q3z g k true) p oneB []=0) (hS1:S.change (q3z g k true) p oneB []=S1) (hc2:S1.changeC (q2z g k p) 0 x [(S.deps.last:Int)+1]=0) (hS2:S1.change (q2z g k p) 0 x [(S.deps.last:Int)+1]=S2) (hfl:S1.Fl) (hfl2:S2.Fl) (hrd:S2.read (q2z g k p)=x)
 {q:Nat} (hq:q<40) (hmo:8≤q→F.more≠0) (h0:F.blocks.getD q 0=0) (hc3:S2.changeC (q7z g i F q) (q9z q) (putB 2 (q2z g k p)) [(S.deps.last:Int)+1,(S.deps.last:Int)+2]=0) (hS:S.KeptR (q25z g i j F G V0)) :
 (S2.change (q7z g i F q) (q9z q) (putB 2 (q2z g k p)) [(S.deps.last:Int)+1,(S.deps.last:Int)+2]).KeptR (q25z g i j { F with blocks:=F.blocks.set q (q2z g k p) } G V0):=by
 have hcl1:S1.Cl NoP:=by rw[←hS1]; exact q58z hS.1 h.fl hc1
 have hcl2:S2.Cl NoP:=by rw[←hS2]; exact q58z hcl1 hfl hc2
 refine⟨q58z hcl2 hfl2 hc3,fun K hK=>?_⟩
 obtain⟨hadm2,hk3⟩:=q66z hc3 hK
 have hl1:=(Side.change_last hc1).1
 rw[hS1] at hl1
 have hl2:=(Side.change_last hc2).1
 rw[hS2,hl1] at hl2
 rw[hl2] at hk3
 obtain⟨FK,GK,hcrash⟩:∃FK GK,Adm NoP S.deps.l K→CrashV g i j F G V0 (S.All K) (S.part K) FK GK:=by
  by_cases ha:Adm NoP S.deps.l K
  ·obtain⟨FK,GK,c⟩:=hS.2 K ha
   exact⟨FK,GK,fun _=>c⟩
  ·exact⟨F,G,fun h=>absurd h ha⟩
 obtain⟨hadm,c,hN,hov⟩:=crash_fresh h hg hin hY hx hc1 hS1 hc2 hS2 hfl hfl2 hrd hadm2 hcrash
 obtain⟨S3,hS3⟩:=zx (S2.change (q7z g i F q) (q9z q) (putB 2 (q2z g k p)) [(S.deps.last:Int)+1,(S.deps.last:Int)+2])
 have a3:∀T,S3.All K T↔S2.All K T∧(T (q7z g i F q) (q9z q) 2→K (S.deps.last+3)=true):=fun T=>by
  have:=q52z (K:=K) hc3 T
  rw[hl2,hS3,q112z] at this
  exact this
 have e3:S3.part K=if K (S.deps.last+3)=true then upd (S2.part K) (q7z g i F q) (q9z q) (textL 2 (q2z g k p).toNat) else S2.part K:=by
  rw[←hS3,part_change hc3,hl2,(putB2 _).1]
  rfl
 rw[hS3,e3]
 have hk32:K (S.deps.last+3)=true→K (S.deps.last+2)=true:=fun hkk=>by
  obtain⟨c2,hc2m,hn⟩:=q146z hc2
  rw[hS2] at hc2m
  have:=(hk3 hkk).1 c2 hc2m (by rw[hn,hl1]; simp; omega)
  rw[hn,hl1] at this
  exact this
 have hb0:=q26z hg hin
 obtain⟨p1,p2,p3⟩:=ptr_sec hg h hmo
 have hA:∀T,S3.All K T→S2.All K T:=fun T ht=>((a3 T).1 ht).1
 have hbits:∀k' p',S2.All K (bitT g k' p')→S3.All K (bitT g k' p'):=fun k' p' ha=>(a3 _).2 ⟨ha,fun ht=>absurd ht (q135z (p1 k'))⟩
 have ks:=c.ks.chg hA (fun k p _ _ ha=>hbits k p ha) hg
 have hql:q<F.blocks.length:=by rw[h.a.file.len]; exact hq
 have kf:KnowsF g i { F with blocks:=F.blocks.set q (q2z g k p) } (S3.All K):=by
  refine⟨fun k' p' hin' hm o n ho hn hon ha=>hbits k' p' ?_,fun k' p' hin' q' hq' ha=>hbits k' p' ?_,fun k' p' hin' hm ha=>hbits k' p' (c.kf.more k' p' hin' hm (hA _ ha))⟩
  ·by_cases e:q2z g k' p' = q2z g k p
   ·obtain⟨rfl,rfl⟩:=q169z hg hin' hin e
    exact(hN (hov o n ho hn hon (hA _ ha))).2.2.2.2
   ·exact c.kf.data k' p' hin' ((q180z hm).resolve_right e) o n ho hn hon (hA _ ha)
  ·dsimp only at hq'
   rw[q136z _ _ _ _ hql] at hq'
   split at hq'
   ·rename_i e
    obtain⟨rfl,rfl⟩:=q169z hg hin hin' hq'
    rw[e] at ha
    have hkk:=((a3 _).1 ha).2 (ov_self _ _ _ (by decide))
    exact(hN (hk32 hkk)).2.2.2.2
   ·exact c.kf.point k' p' hin' q' hq' (hA _ ha)
 by_cases hkk:K (S.deps.last+3)=true
 ·rw[if_pos hkk]
  obtain⟨n1,n2,n3,n4,n5⟩:=hN (hk32 hkk)
  have hov3:=(hk3 hkk).2
  rw[q112z] at hov3
  obtain⟨FK',hf,hf2,_⟩:=c.f.point hg (q:=q) hq hmo h.a.file.len (fun h0=>more_ing h h0) (N:=q2z g k p) (Or.inr ⟨n1,k,p,hin,rfl,n3⟩) hA
  refine⟨FK',GK,hf,(c.s.weak hA).other p2 (fun hm=>ptr_other hg h c hq hmo hov3 hm) p1 _ _,fun y hy=>?_,kf,ks,fun k' hk'=>?_,fun s s1 s2 s3 s4=>?_⟩
  ·rcases hf2 y hy with rfl | hy
   ·exact n2
   ·exact c.dis y hy
  ·rw[q10z _ (Ne.symm (p1 k'))]
   exact c.maps k' hk'
  ·have hs:s≠q7z g i F q:=by
    rcases p3 with e | ⟨k0,p0,hin0,e,_⟩
    ·rw[e]; exact s2
    ·rw[e]; exact s4 k0 p0 hin0
   rw[q10z _ hs]
   exact c.rest s s1 s2 s3 s4
 ·rw[if_neg hkk]
  refine⟨FK,GK,c.f.toF hA (fun k' p' hin' _=>⟨fun q' _ hF hm=>?_,fun _ hF=>hF⟩),c.s.weak hA,c.dis,kf,ks,c.maps,c.rest⟩
  dsimp only
  rw[q136z _ _ _ _ hql,if_neg]
  ·exact⟨hF,hm⟩
  ·intro e
   rw[e,h0] at hF
   exact q26z hg hin' hF.symm
theorem crash_list (h:Bm2 g i j S F G X Y r) (hg:g.ok) (hin:InG g k p) (hY:q2z g k p∉Y) (hx:x=blank) (hc1:S.changeC (q3z g k true) p oneB []=0) (hS1:S.change (q3z g k true) p oneB []=S1) (hc2:S1.changeC (q2z g k p) 0 x [(S.deps.last:Int)+1]=0) (hS2:S1.change (q2z g k p) 0 x [(S.deps.last:Int)+1]=S2) (hfl:S1.Fl) (hfl2:S2.Fl) (hrd:S2.read (q2z g k p)=x)
 (h0:F.more=0) (hc3:S2.changeC (q1z g i) 24 (putB 2 (q2z g k p)) [(S.deps.last:Int)+1,(S.deps.last:Int)+2]=0) (hS:S.KeptR (q25z g i j F G V0)) :
 (S2.change (q1z g i) 24 (putB 2 (q2z g k p)) [(S.deps.last:Int)+1,(S.deps.last:Int)+2]).KeptR (q25z g i j { F with more:=q2z g k p } G V0):=by
 have hcl1:S1.Cl NoP:=by rw[←hS1]; exact q58z hS.1 h.fl hc1
 have hcl2:S2.Cl NoP:=by rw[←hS2]; exact q58z hcl1 hfl hc2
 refine⟨q58z hcl2 hfl2 hc3,fun K hK=>?_⟩
 obtain⟨hadm2,hk3⟩:=q66z hc3 hK
 have hl1:=(Side.change_last hc1).1
 rw[hS1] at hl1
 have hl2:=(Side.change_last hc2).1
 rw[hS2,hl1] at hl2
 rw[hl2] at hk3
 obtain⟨FK,GK,hcrash⟩:∃FK GK,Adm NoP S.deps.l K→CrashV g i j F G V0 (S.All K) (S.part K) FK GK:=by
  by_cases ha:Adm NoP S.deps.l K
  ·obtain⟨FK,GK,c⟩:=hS.2 K ha
   exact⟨FK,GK,fun _=>c⟩
  ·exact⟨F,G,fun h=>absurd h ha⟩
 have hx64:x.size=64:=by rw[hx]; unfold blank; rw[Lib.size_eq,q8z,zeros_length]
 obtain⟨hadm,c,hN,hov⟩:=crash_fresh h hg hin hY hx64 hc1 hS1 hc2 hS2 hfl hfl2 hrd hadm2 hcrash
 obtain⟨S3,hS3⟩:=zx (S2.change (q1z g i) 24 (putB 2 (q2z g k p)) [(S.deps.last:Int)+1,(S.deps.last:Int)+2])
 have a3:∀T,S3.All K T↔S2.All K T∧(T (q1z g i) 24 2→K (S.deps.last+3)=true):=fun T=>by
  have:=q52z (K:=K) hc3 T
  rw[hl2,hS3,q112z] at this
  exact this
 have e3:S3.part K=if K (S.deps.last+3)=true then upd (S2.part K) (q1z g i) 24 (textL 2 (q2z g k p).toNat) else S2.part K:=by
  rw[←hS3,part_change hc3,hl2,(putB2 _).1]
  rfl
 rw[hS3,e3]
 have hk32:K (S.deps.last+3)=true→K (S.deps.last+2)=true:=fun hkk=>by
  obtain⟨c2,hc2m,hn⟩:=q146z hc2
  rw[hS2] at hc2m
  have:=(hk3 hkk).1 c2 hc2m (by rw[hn,hl1]; simp; omega)
  rw[hn,hl1] at this
  exact this
 have hb0:=q26z hg hin
 have p1:∀k,q1z g i≠q3z g k true:=fun k=>q21z hg k true
 have hA:∀T,S3.All K T→S2.All K T:=fun T ht=>((a3 T).1 ht).1
 have hbits:∀k' p',S2.All K (bitT g k' p')→S3.All K (bitT g k' p'):=fun k' p' ha=>(a3 _).2 ⟨ha,fun ht=>absurd ht (q135z (p1 k'))⟩
 have ks:=c.ks.chg hA (fun k p _ _ ha=>hbits k p ha) hg
 have h8:∀q',F.blocks.getD q' 0≠0→q' < 8:=fun q' hne=>Classical.byContradiction fun h8=>hne (by
  have hz:=h.a.file.none h0
  have e:F.blocks[q']? = (F.blocks.drop 8)[q' - 8]?:=by rw[List.getElem?_drop,show 8+(q' - 8)=q' by omega]
  rw[List.getD_eq_getElem?_getD,e,hz,List.getElem?_replicate]
  split <;> rfl)
 have kf:KnowsF g i { F with more:=q2z g k p } (S3.All K):=by
  refine⟨fun k' p' hin' hm o n ho hn hon ha=>hbits k' p' ?_,fun k' p' hin' q' hq' ha=>hbits k' p' ?_,fun k' p' hin' hm ha=>hbits k' p' ?_⟩
  ·by_cases e:q2z g k' p' = q2z g k p
   ·obtain⟨rfl,rfl⟩:=q169z hg hin' hin e
    exact(hN (hov o n ho hn hon (hA _ ha))).2.2.2.2
   ·exact c.kf.data k' p' hin' ((all_more hm).resolve_right e) o n ho hn hon (hA _ ha)
  ·have hq8:=h8 q' (by
    have hq':F.blocks.getD q' 0=q2z g k' p':=hq'
    rw[hq']
    exact q26z hg hin')
   have e1:q7z g i { F with more:=q2z g k p } q' = q7z g i F q':=by unfold q7z; rw[if_pos hq8,if_pos hq8]
   rw[e1] at ha
   exact c.kf.point k' p' hin' q' hq' (hA _ ha)
  ·obtain⟨rfl,rfl⟩:=q169z hg hin hin' hm
   have hkk:=((a3 _).1 ha).2 (ov_self _ _ _ (by decide))
   exact(hN (hk32 hkk)).2.2.2.2
 by_cases hkk:K (S.deps.last+3)=true
 ·rw[if_pos hkk]
  obtain⟨n1,n2,n3,n4,n5⟩:=hN (hk32 hkk)
  obtain⟨FK',hf,hf2⟩:=c.f.relist hg (N:=q2z g k p) (Or.inr ⟨n1,by rw[n4,hx,q130z],k,p,hin,rfl,n3⟩) hA
  refine⟨FK',GK,hf,(c.s.weak hA).other h.apart (fun hm e=>?_) p1 _ _,fun y hy=>?_,kf,ks,fun k' hk'=>?_,fun s s1 s2 s3 s4=>?_⟩
  ·obtain⟨kG,pG,hinG,eG,_⟩:=c.s.blk _ (q6z.2 ⟨Or.inl rfl,hm⟩)
   exact q27z hg ⟨by omega,hinG.2⟩ (e.trans eG)
  ·rcases hf2 y hy with rfl | ⟨hy,_⟩
   ·exact n2
   ·exact c.dis y hy
  ·rw[q10z _ (Ne.symm (p1 k'))]
   exact c.maps k' hk'
  ·rw[q10z _ s2]
   exact c.rest s s1 s2 s3 s4
 ·rw[if_neg hkk]
  refine⟨FK,GK,c.f.toF hA (fun k' p' hin' _=>⟨fun q' _ hF hm=>⟨hF,fun hq8=>?_⟩,fun _ hF=>?_⟩),c.s.weak hA,c.dis,kf,ks,c.maps,c.rest⟩
  ·have:=h8 q' (by rw[hF]; exact q26z hg hin')
   omega
  ·exact absurd (hF.symm.trans h0) (q26z hg hin')
theorem crash_wipe (h:Bm2 g i j S F G X Y r) (hg:g.ok) (hin:InG g k p) {q:Nat} (hq:q<40) (hmo:8≤q→F.more≠0) (hb:F.blocks.getD q 0=q2z g k p) {first:Int} (hc1:S.changeC (q7z g i F q) (q9z q) (putB 2 0) [first]=0) (hS1:S.change (q7z g i F q) (q9z q) (putB 2 0) [first]=S1) (hfl:S1.Fl) (hc2:S1.changeC (q3z g k true) p zeroB [(S.deps.last:Int)+1]=0) (hS:S.KeptR (q25z g i j F G V0)) :
 (S1.change (q3z g k true) p zeroB [(S.deps.last:Int)+1]).KeptR (q25z g i j { F with blocks:=F.blocks.set q 0 } G V0):=by
 have hcl1:S1.Cl NoP:=by rw[←hS1]; exact q58z hS.1 h.fl hc1
 refine⟨q58z hcl1 hfl hc2,fun K hK=>?_⟩
 obtain⟨hadm1,hk2⟩:=q66z hc2 hK
 have hl1:=(Side.change_last hc1).1
 rw[hS1] at hl1
 rw[hl1] at hk2
 rw[←hS1] at hadm1
 obtain⟨hadm,hk1⟩:=q66z hc1 hadm1
 obtain⟨FK,GK,c⟩:=hS.2 K hadm
 obtain⟨S2,hS2⟩:=zx (S1.change (q3z g k true) p zeroB [(S.deps.last:Int)+1])
 have a1:∀T,S1.All K T↔S.All K T∧(T (q7z g i F q) (q9z q) 2→K (S.deps.last+1)=true):=fun T=>by
  have:=q52z (K:=K) hc1 T
  rw[hS1,q112z] at this
  exact this
 have a2:∀T,S2.All K T↔S1.All K T∧(T (q3z g k true) p 1→K (S.deps.last+2)=true):=fun T=>by
  have:=q52z (K:=K) hc2 T
  rw[hl1,hS2,zero_size] at this
  exact this
 have e1:S1.part K=if K (S.deps.last+1)=true then upd (S.part K) (q7z g i F q) (q9z q) (textL 2 (0:Int).toNat) else S.part K:=by
  rw[←hS1,part_change hc1,(putB2 _).1]
  rfl
 have e2:S2.part K=if K (S.deps.last+2)=true then upd (S1.part K) (q3z g k true) p [0] else S1.part K:=by
  rw[←hS2,part_change hc2,hl1]
  rfl
 have hk21:K (S.deps.last+2)=true→K (S.deps.last+1)=true:=fun hkk=>by
  obtain⟨c1,hc1m,hn⟩:=q146z hc1
  rw[hS1] at hc1m
  have:=(hk2 hkk).1 c1 hc1m (by rw[hn]; exact List.mem_singleton.2 (by omega))
  rw[hn] at this
  exact this
 rw[hS2]
 obtain⟨p1,p2,p3⟩:=ptr_sec hg h hmo
 have hql:q<F.blocks.length:=by rw[h.a.file.len]; exact hq
 have hb0:=q26z hg hin
 have hbF:q2z g k p∈F.all:=q113z hb hb0
 have hbG:q2z g k p∉G.all:=h.dis _ hbF
 have hp64:=ing64 hg hin
 have hA:∀T,S2.All K T→S.All K T:=fun T ht=>((a1 T).1 ((a2 T).1 ht).1).1
 have hbits:∀k' p',InG g k' p'→q2z g k' p'≠q2z g k p→S.All K (bitT g k' p')→S2.All K (bitT g k' p'):=fun k' p' hin' hne ha=>
  (a2 _).2 ⟨(a1 _).2 ⟨ha,fun ht=>absurd ht (q135z (p1 k'))⟩,fun ht=>absurd ht (bitT_other hg (fun e=>hne (by rw[e.1,e.2])) rfl)⟩
 have hb2:F.blocks[q]'hql=q2z g k p:=by rw[←hb,List.getD_eq_getElem?_getD,List.getElem?_eq_getElem hql]; rfl
 have hbF':q2z g k p∉({ F with blocks:=F.blocks.set q 0 }:File).all:=by
  have:=all_wiped h.a.file hq (by rw[hb2]; exact hb0)
  rw[hb2] at this
  exact this
 have ks:=c.ks.chg hA (fun k' p' hin' hm ha=>hbits k' p' hin' (fun e=>hbG (e ▸ hm)) ha) hg
 have hall:∀{b},b∈({ F with blocks:=F.blocks.set q 0 }:File).all→b∈F.all:=fun hm=>(q180z hm).resolve_right (q6z.1 hm).2
 have kf:KnowsF g i { F with blocks:=F.blocks.set q 0 } (S2.All K):=by
  refine⟨fun k' p' hin' hm o n ho hn hon ha=>hbits k' p' hin' (fun e=>hbF' (e ▸ hm)) (c.kf.data k' p' hin' (hall hm) o n ho hn hon (hA _ ha)),fun k' p' hin' q' hq' ha=>?_,fun k' p' hin' hm ha=>hbits k' p' hin' (fun e=>hbF' (q6z.2 ⟨Or.inl (e ▸ hm.symm),hb0⟩)) (c.kf.more k' p' hin' hm (hA _ ha))⟩
  have hm:=q113z hq' (q26z hg hin')
  refine hbits k' p' hin' (fun e=>hbF' (e ▸ hm)) (c.kf.point k' p' hin' q' ?_ (hA _ ha))
  dsimp only at hq'
  rw[q136z _ _ _ _ hql] at hq'
  split at hq'
  ·exact absurd hq'.symm (q26z hg hin')
  ·exact hq'
 -- the block's bit: whoever knows it
 have hkill:K (S.deps.last+1)=true→S.All K (bitT g k p):=fun hkk=>by
  have:=(hk1 hkk).2
  rw[q112z] at this
  exact c.kf.point k p hin q hb this
 have hmz:=q42z (c.maps k hin.1)
 by_cases hkk1:K (S.deps.last+1)=true
 ·have hbit:=hkill hkk1
  obtain⟨f1,f2⟩:=c.f.cur k p hin hbit
  obtain⟨g1,g2⟩:=c.s.cur k p hin hbit
  have hov:=(hk1 hkk1).2
  rw[q112z] at hov
  obtain⟨FK',hf,hf2,hf3⟩:=c.f.point hg (q:=q) hq hmo h.a.file.len (fun h0=>more_ing h h0) (N:=0) (Or.inl rfl) hA
  have hs1:HalfV g j G (S2.All K) (upd (S.part K) (q7z g i F q) (q9z q) (textL 2 (0:Int).toNat)) GK:=(c.s.weak hA).other p2 (fun hm=>ptr_other hg h c hq hmo hov hm) p1 _ _
  have hsame:∀q',F.blocks.getD q' 0=q2z g k p→q' = q:=fun q' hq'=>by
   have hl':q' < F.blocks.length:=Classical.byContradiction fun hl'=>by
    rw[List.getD_eq_getElem?_getD,List.getElem?_eq_none (by omega)] at hq'
    exact hb0 hq'.symm
   have e:F.blocks[q']'hl' = F.blocks[q]'hql:=by
    rw[hb2,←hq',List.getD_eq_getElem?_getD,List.getElem?_eq_getElem hl']; rfl
   exact h.a.file.once hl' hql (by rw[e,hb2]; exact hb0) e
  have hmne:F.more≠q2z g k p:=fun e=>h.a.file.more_apart (by rw[e]; exact hb0) (by rw[e,←hb2]; exact List.getElem_mem hql)
  have hnF:q2z g k p∉FK'.all:=by
   refine hf3 _ hb0 hb0 (fun hm=>?_) ?_
   ·obtain⟨_,hm | ⟨q',_,hq'⟩⟩:=q152z hm
    ·exact hmne (f2 hm.symm)
    ·have hq':(FK.blocks.set q 0).getD q' 0=q2z g k p:=hq'
     rw[q136z _ _ _ _ (by rw[c.f.file.len]; exact hq)] at hq'
     split at hq'
     ·exact hb0 hq'.symm
     ·rename_i hne
      exact hne (hsame q' (f1 q' hq').1)
   ·by_cases hss:8≤q→FK.more=F.more
    ·exact Or.inl hss
    ·refine Or.inr (fun hm=>?_)
     obtain⟨_,hm | ⟨q',_,hq'⟩⟩:=q152z hm
     ·exact hmne (f2 hm.symm)
     ·obtain⟨d1,d2⟩:=f1 q' hq'
      have:=hsame q' d1
      subst this
      exact hss d2
  have hnG:q2z g k p∉GK.all:=fun hm=>by
   obtain⟨_,hm | ⟨q',_,hq'⟩⟩:=q152z hm
   ·exact hbG (q6z.2 ⟨Or.inl (g2 hm.symm).symm,hb0⟩)
   ·exact hbG (q113z (g1 q' hq').1 hb0)
  rw[if_pos hkk1] at e1
  have hdis:∀y∈FK'.all,y∉GK.all:=fun y hy=>c.dis y ((hf2 y hy).resolve_left (q6z.1 hy).2)
  have hmaps1:∀k',0≤k'∧k' < g.groups→mapC (S1.part K (q3z g k' true)) g.blocks=0:=fun k' hk'=>by
   rw[e1,q10z _ (Ne.symm (p1 k'))]
   exact c.maps k' hk'
  have hrest1:∀s,(∀k,s≠q3z g k true)→s≠q1z g i→s≠q1z g j→(∀k p,InG g k p→s≠q2z g k p)→S1.part K s=V0 s:=fun s s1 s2 s3 s4=>by
   have hs:s≠q7z g i F q:=by
    rcases p3 with e | ⟨k0,p0,hin0,e,_⟩
    ·rw[e]; exact s2
    ·rw[e]; exact s4 k0 p0 hin0
   rw[e1,q10z _ hs]
   exact c.rest s s1 s2 s3 s4
  rw[←e1] at hf hs1
  have hmz1:=q42z (hmaps1 k hin.1)
  by_cases hkk2:K (S.deps.last+2)=true
  ·rw[if_pos hkk2] at e2
   rw[e2]
   refine⟨FK',GK,hf.bit hg hp64 hmz1.2.2.1 (Or.inr ⟨hin,hnF⟩),hs1.bit hg hp64 hmz1.2.2.1 (Or.inr ⟨hin,hnG⟩),hdis,kf,ks,fun k' hk'=>?_,fun s s1 s2 s3 s4=>by rw[q10z _ (s1 k)]; exact hrest1 s s1 s2 s3 s4⟩
   by_cases e:k' = k
   ·subst e
    rw[upd_same]
    exact mapC_set (hmaps1 k' hk') hin.2 (Or.inl rfl)
   ·rw[q10z _ (fun e2=>e (q122z hg e2).1)]
    exact hmaps1 k' hk'
  ·rw[if_neg hkk2] at e2
   rw[e2]
   exact⟨FK',GK,hf,hs1,hdis,kf,ks,hmaps1,hrest1⟩
 ·have hkk2:¬K (S.deps.last+2)=true:=fun h=>hkk1 (hk21 h)
  rw[if_neg hkk1] at e1
  rw[if_neg hkk2,e1] at e2
  rw[e2]
  refine⟨FK,GK,c.f.toF hA (fun k' p' hin' ha=>⟨fun q' _ hF hm=>?_,fun _ hF=>hF⟩),c.s.weak hA,c.dis,kf,ks,c.maps,c.rest⟩
  dsimp only
  rw[q136z _ _ _ _ hql,if_neg]
  ·exact⟨hF,hm⟩
  ·intro e
   rw[e,hb] at hF
   obtain⟨rfl,rfl⟩:=q169z hg hin hin' hF
   exact hkk2 (((a2 _).1 ha).2 (ov_self _ _ _ (by decide)))
theorem crash_unlist (h:Bm2 g i j S F G X Y r) (hg:g.ok) (hin:InG g k p) (hb:F.more=q2z g k p) (hz:F.blocks.drop 8=List.replicate 32 0) {first:Int} (hc1:S.changeC (q1z g i) 24 (putB 2 0) [first]=0) (hS1:S.change (q1z g i) 24 (putB 2 0) [first]=S1) (hfl:S1.Fl) (hc2:S1.changeC (q3z g k true) p zeroB [(S.deps.last:Int)+1]=0) (hS:S.KeptR (q25z g i j F G V0)) :
 (S1.change (q3z g k true) p zeroB [(S.deps.last:Int)+1]).KeptR (q25z g i j { F with more:=0 } G V0):=by
 have hcl1:S1.Cl NoP:=by rw[←hS1]; exact q58z hS.1 h.fl hc1
 refine⟨q58z hcl1 hfl hc2,fun K hK=>?_⟩
 obtain⟨hadm1,hk2⟩:=q66z hc2 hK
 have hl1:=(Side.change_last hc1).1
 rw[hS1] at hl1
 rw[hl1] at hk2
 rw[←hS1] at hadm1
 obtain⟨hadm,hk1⟩:=q66z hc1 hadm1
 obtain⟨FK,GK,c⟩:=hS.2 K hadm
 obtain⟨S2,hS2⟩:=zx (S1.change (q3z g k true) p zeroB [(S.deps.last:Int)+1])
 have a1:∀T,S1.All K T↔S.All K T∧(T (q1z g i) 24 2→K (S.deps.last+1)=true):=fun T=>by
  have:=q52z (K:=K) hc1 T
  rw[hS1,q112z] at this
  exact this
 have a2:∀T,S2.All K T↔S1.All K T∧(T (q3z g k true) p 1→K (S.deps.last+2)=true):=fun T=>by
  have:=q52z (K:=K) hc2 T
  rw[hl1,hS2,zero_size] at this
  exact this
 have e1:S1.part K=if K (S.deps.last+1)=true then upd (S.part K) (q1z g i) 24 (textL 2 (0:Int).toNat) else S.part K:=by
  rw[←hS1,part_change hc1,(putB2 _).1]
  rfl
 have e2:S2.part K=if K (S.deps.last+2)=true then upd (S1.part K) (q3z g k true) p [0] else S1.part K:=by
  rw[←hS2,part_change hc2,hl1]
  rfl
 have hk21:K (S.deps.last+2)=true→K (S.deps.last+1)=true:=fun hkk=>by
  obtain⟨c1,hc1m,hn⟩:=q146z hc1
  rw[hS1] at hc1m
  have:=(hk2 hkk).1 c1 hc1m (by rw[hn]; exact List.mem_singleton.2 (by omega))
  rw[hn] at this
  exact this
 rw[hS2]
 have p1:∀k,q1z g i≠q3z g k true:=fun k=>q21z hg k true
 have hb0:=q26z hg hin
 have hbF:q2z g k p∈F.all:=q6z.2 ⟨Or.inl hb.symm,hb0⟩
 have hbG:q2z g k p∉G.all:=h.dis _ hbF
 have hp64:=ing64 hg hin
 have hA:∀T,S2.All K T→S.All K T:=fun T ht=>((a1 T).1 ((a2 T).1 ht).1).1
 have hbits:∀k' p',InG g k' p'→q2z g k' p'≠q2z g k p→S.All K (bitT g k' p')→S2.All K (bitT g k' p'):=fun k' p' hin' hne ha=>
  (a2 _).2 ⟨(a1 _).2 ⟨ha,fun ht=>absurd ht (q135z (p1 k'))⟩,fun ht=>absurd ht (bitT_other hg (fun e=>hne (by rw[e.1,e.2])) rfl)⟩
 have hbB:q2z g k p∉F.blocks:=by
  rw[←hb]
  exact h.a.file.more_apart (by rw[hb]; exact hb0)
 have ks:=c.ks.chg hA (fun k' p' hin' hm ha=>hbits k' p' hin' (fun e=>hbG (e ▸ hm)) ha) hg
 have hmem:∀{b},b∈({ F with more:=0 }:File).all→b∈F.blocks:=fun hm=>by
  obtain⟨h1,h2⟩:=q6z.1 hm
  exact h1.resolve_left h2
 have h8:∀q',F.blocks.getD q' 0≠0→q' < 8:=fun q' hne=>Classical.byContradiction fun h8=>hne (by
  have e:F.blocks[q']? = (F.blocks.drop 8)[q' - 8]?:=by rw[List.getElem?_drop,show 8+(q' - 8)=q' by omega]
  rw[List.getD_eq_getElem?_getD,e,hz,List.getElem?_replicate]
  split <;> rfl)
 have kf:KnowsF g i { F with more:=0 } (S2.All K):=by
  refine⟨fun k' p' hin' hm o n ho hn hon ha=>hbits k' p' hin' (fun e=>hbB (e ▸ hmem hm)) (c.kf.data k' p' hin' (q6z.2 ⟨Or.inr (hmem hm),q26z hg hin'⟩) o n ho hn hon (hA _ ha)),fun k' p' hin' q' hq' ha=>?_,fun k' p' hin' hm ha=>absurd hm.symm (q26z hg hin')⟩
  have hq':F.blocks.getD q' 0=q2z g k' p':=hq'
  have hq8:=h8 q' (by rw[hq']; exact q26z hg hin')
  have e3:q7z g i { F with more:=0 } q' = q7z g i F q':=by unfold q7z; rw[if_pos hq8,if_pos hq8]
  rw[e3] at ha
  refine hbits k' p' hin' (fun e=>hbB ?_) (c.kf.point k' p' hin' q' hq' (hA _ ha))
  rw[←e,←hq']
  exact q158z (by rw[hq']; exact q26z hg hin')
 have hmz:=q42z (c.maps k hin.1)
 by_cases hkk1:K (S.deps.last+1)=true
 ·have hov:=(hk1 hkk1).2
  rw[q112z] at hov
  have hbit:=c.kf.more k p hin hb hov
  obtain⟨f1,f2⟩:=c.f.cur k p hin hbit
  obtain⟨g1,g2⟩:=c.s.cur k p hin hbit
  obtain⟨FK',hf,hf2⟩:=c.f.relist hg (N:=0) (Or.inl rfl) hA
  have hs1:HalfV g j G (S2.All K) (upd (S.part K) (q1z g i) 24 (textL 2 (0:Int).toNat)) GK:=(c.s.weak hA).other h.apart (fun hm e=>by
   obtain⟨kG,pG,hinG,eG,_⟩:=c.s.blk _ (q6z.2 ⟨Or.inl rfl,hm⟩)
   exact q27z hg ⟨by omega,hinG.2⟩ (e.trans eG)) p1 _ _
  have hnF:q2z g k p∉FK'.all:=fun hm=>by
   rcases hf2 _ hm with e | ⟨_,q',_,hq'⟩
   ·exact hb0 e
   ·have:=(f1 q' hq').1
    exact hbB (by rw[←this]; exact q158z (by rw[this]; exact hb0))
  have hnG:q2z g k p∉GK.all:=fun hm=>by
   obtain⟨_,hm | ⟨q',_,hq'⟩⟩:=q152z hm
   ·exact hbG (q6z.2 ⟨Or.inl (g2 hm.symm).symm,hb0⟩)
   ·exact hbG (q113z (g1 q' hq').1 hb0)
  rw[if_pos hkk1] at e1
  have hdis:∀y∈FK'.all,y∉GK.all:=fun y hy=>c.dis y ((hf2 y hy).resolve_left (q6z.1 hy).2).1
  have hmaps1:∀k',0≤k'∧k' < g.groups→mapC (S1.part K (q3z g k' true)) g.blocks=0:=fun k' hk'=>by
   rw[e1,q10z _ (Ne.symm (p1 k'))]
   exact c.maps k' hk'
  have hrest1:∀s,(∀k,s≠q3z g k true)→s≠q1z g i→s≠q1z g j→(∀k p,InG g k p→s≠q2z g k p)→S1.part K s=V0 s:=fun s s1 s2 s3 s4=>by
   rw[e1,q10z _ s2]
   exact c.rest s s1 s2 s3 s4
  rw[←e1] at hf hs1
  have hmz1:=q42z (hmaps1 k hin.1)
  by_cases hkk2:K (S.deps.last+2)=true
  ·rw[if_pos hkk2] at e2
   rw[e2]
   refine⟨FK',GK,hf.bit hg hp64 hmz1.2.2.1 (Or.inr ⟨hin,hnF⟩),hs1.bit hg hp64 hmz1.2.2.1 (Or.inr ⟨hin,hnG⟩),hdis,kf,ks,fun k' hk'=>?_,fun s s1 s2 s3 s4=>by rw[q10z _ (s1 k)]; exact hrest1 s s1 s2 s3 s4⟩
   by_cases e:k' = k
   ·subst e
    rw[upd_same]
    exact mapC_set (hmaps1 k' hk') hin.2 (Or.inl rfl)
   ·rw[q10z _ (fun e2=>e (q122z hg e2).1)]
    exact hmaps1 k' hk'
  ·rw[if_neg hkk2] at e2
   rw[e2]
   exact⟨FK',GK,hf,hs1,hdis,kf,ks,hmaps1,hrest1⟩
 ·have hkk2:¬K (S.deps.last+2)=true:=fun h=>hkk1 (hk21 h)
  rw[if_neg hkk1] at e1
  rw[if_neg hkk2,e1] at e2
  rw[e2]
  refine⟨FK,GK,c.f.toF hA (fun k' p' hin' ha=>⟨fun q' _ hF hm=>⟨hF,fun hq8=>?_⟩,fun _ hF=>?_⟩),c.s.weak hA,c.dis,kf,ks,c.maps,c.rest⟩
  ·have:=h8 q' (by rw[hF]; exact q26z hg hin')
   omega
  ·obtain⟨rfl,rfl⟩:=q169z hg hin hin' (hb.symm.trans hF)
   exact absurd (((a2 _).1 ha).2 (ov_self _ _ _ (by decide))) hkk2
end
