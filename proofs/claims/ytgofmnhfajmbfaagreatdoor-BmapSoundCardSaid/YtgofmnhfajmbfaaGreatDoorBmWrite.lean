import Derived.Test.YtgofmnhfajmbfaaGreatDoorBmC
namespace Go.Proofs.YtgofmnhfajmbfaaGreatDoor
open Go Go.RowKit Txt Sp
def q173z (w:World) (base B Bd:Nat) (D:Nat→Prop) (c:Int) (t':BSt) (e:Ending) (w':World):Prop:=
 (c=0∧∃v,e = .returned (.tuple #[v,.int .i64 0])∧Ints w' v t'.made∧q18z w base B Bd t'.S D w')∨(c≠0∧e = .returned (.tuple #[.slice none 0 0,.int .i64 c])∧Turn D w w')
theorem FM.resize {w0 wr:World} {base B Bd Bf:Nat} {D0 D:Nat→Prop} {g:Sp.Geom} {i at_:Int} {n:Sp.Inode} {t:BSt} {vb vm:Value} (h:FM w0 base B Bd Bf D0 g i at_ n t vb vm D wr) (z:Int):FM w0 base B Bd Bf D0 g i at_ n ⟨t.S,{ t.F with size:=z },t.made⟩ vb vm D wr:=
 ⟨⟨h.core.side,h.core.lt,h.core.sub,h.core.lo,h.core.nf,h.core.nb,h.core.box,h.core.blk,h.core.tn,h.core.bs⟩,h.mad,h.nm,h.nbm⟩
theorem FM.finish {w w1 wr:World} {base B Bd Bf:Nat} {D D':Nat→Prop} {g:Sp.Geom} {i at_:Int} {n:Sp.Inode} {t:BSt} {vb vm:Value} (h:FM w1 base B Bd Bf D g i at_ n t vb vm D' wr) (hb:Below w.heap.size w w1) (hD:∀j,D j→j<w.heap.size) (hbs:base≤w.heap.size) {q:Nat} (hq1:w.heap.size≤q) (hq2:q<w1.heap.size) (v:Value) :
 Ints (wr.setCell ⟨q,0,none⟩ v) vm t.made∧q18z w base B Bd t.S D (wr.setCell ⟨q,0,none⟩ v):=by
 have hT:=q14z (w:=wr) (b:=q) (k:=0) (v:=v)
 have hs:=hb.size
 have hz:=hT.size
 have hnq:¬D' q:=fun hd=>(h.core.sub q hd).elim (fun h1=>by have:=hD q h1; omega) (fun h1=>by omega)
 refine⟨OwnR.row (f:=intC) (fun _ _=>rfl) (h.mad.turn hT (fun k hk e=>by have:=(h.mad.lt k hk).1; omega)),?_,D,fun _ h=>h,?_⟩
 ·refine(h.core.side.turn hT (fun k hk e=>hnq (e ▸ hk)) (fun k e=>by omega)).mono (fun j hj=>?_)
  refine(h.core.sub j hj).imp_right (fun h1=>⟨by omega,?_⟩)
  have:=h.core.lt j hj
  omega
 ·exact((Turn.of_below (K:=D) hb).trans h.core.tn (fun _ _ h=>h) (fun _ _ h=>h)).trans (K:=D) hT (fun _ _ h=>h) (fun j hj e=>by omega)
def FineRow (w:World) (base B Bd:Nat) (D:Nat→Prop) (t':BSt) (v:Value) (w':World):Prop:=
 OwnR 3 1 intC w.heap.size w' v t'.made∧∃D',SideAt w' base B Bd t'.S D'∧(∀j,D' j→D j∨(w.heap.size≤j∧j<w'.heap.size))∧∀k,v.ownBlock=some k→¬D' k
def q137z (w:World) (base B Bd:Nat) (D:Nat→Prop) (c:Int) (t':BSt) (e:Ending) (w':World):Prop:=
 (c=0∧∃v,e = .returned (.tuple #[v,.int .i64 0])∧(Ints w' v t'.made∧q18z w base B Bd t'.S D w')∧FineRow w base B Bd D t' v w')∨(c≠0∧e = .returned (.tuple #[.slice none 0 0,.int .i64 c])∧Turn D w w')
theorem q137z.post {w:World} {base B Bd:Nat} {D:Nat→Prop} {c:Int} {t':BSt} {e:Ending} {w':World} (h:q137z w base B Bd D c t' e w'):q173z w base B Bd D c t' e w':=by
 rcases h with ⟨h0,v,he,hf,_⟩ | h
 ·exact Or.inl ⟨h0,v,he,hf.1,hf.2⟩
 ·exact Or.inr h
theorem FM.fine {w w1 wr:World} {base B Bd Bf:Nat} {D D':Nat→Prop} {g:Sp.Geom} {i at_:Int} {n:Sp.Inode} {t:BSt} {vb vm:Value} (h:FM w1 base B Bd Bf D g i at_ n t vb vm D' wr) (hb:Below w.heap.size w w1) (hD:∀j,D j→j<w.heap.size) (hbs:base≤w.heap.size) {q:Nat} (hq1:w.heap.size≤q) (hq2:q<w1.heap.size) (v:Value) :
 FineRow w base B Bd D t vm (wr.setCell ⟨q,0,none⟩ v):=by
 have hT:=q14z (w:=wr) (b:=q) (k:=0) (v:=v)
 have hs:=hb.size
 have hz:=hT.size
 have hnq:¬D' q:=fun hd=>(h.core.sub q hd).elim (fun h1=>by have:=hD q h1; omega) (fun h1=>by omega)
 refine⟨(h.mad.turn hT (fun k hk e=>by have:=(h.mad.lt k hk).1; omega)).mono hs,D',h.core.side.turn hT (fun k hk e=>hnq (e ▸ hk)) (fun k e=>by omega),fun j hj=>?_,h.nm⟩
 refine(h.core.sub j hj).imp_right (fun h1=>⟨by omega,?_⟩)
 have:=h.core.lt j hj
 omega
theorem extract_eq {x:ByteArray} {a b:Nat} {d:List UInt8} (hd:d=x.data.toList.drop a) {m:Nat} (hb:b=a+min d.length m):x.extract a b=ofL (d.take m):=by
 refine Txt.ext ?_
 rw[q8z,Lib.extract_data,←hd,hb,Nat.add_sub_cancel_left]
 rw[←List.take_take,List.take_take,Nat.min_comm,←List.take_take,List.take_of_length_le (i:=d.length) (Nat.le_refl _)]
theorem round_nums {a off E n Q R nx A1 N1 Q1 Q2 sz:Nat} (hQ:a / 64=Q) (hR:a % 64=R) (hnx:a+min n (64-R)=nx) (hA:a-off=A1) (hN:nx-off=N1) (hQ1:Q+1=Q1) (hQ2:Q1*64=Q2) (h1:off≤a) (h2:a+n=E) (h3:0<n) (h4:E≤2560) (h5:off+sz=E) :
 decide ((a:Int)<(E:Int))=true∧(a:Int).tdiv 64=(Q:Int)∧(a:Int).tmod 64=(R:Int)∧wrap64 (Q:Int)=(Q:Int)∧IntKind.i64.wrap ((Q:Int)+1)=(Q1:Int)∧IntKind.i64.wrap ((Q1:Int)*64)=(Q2:Int)∧min (E:Int) (Q2:Int)=(nx:Int) ∧
  IntKind.i64.wrap ((a:Int)-(off:Int))=(A1:Int)∧IntKind.i64.wrap ((nx:Int)-(off:Int))=(N1:Int)∧A1≤N1∧N1≤sz∧E-nx<E-a∧A1+min n (64-R)=N1:=by
 have ha:a=64*Q+R:=by omega
 have hR2:R<64:=by omega
 clear hQ hR
 subst ha
 refine⟨decide_eq_true (by omega),?_,?_,IntWalk.wrap64_in _ ⟨by omega,by omega⟩,?_,?_,by omega,?_,?_,by omega,by omega,by omega,by omega⟩
 ·rw[Int.tdiv_eq_ediv_of_nonneg (by omega)]; omega
 ·rw[Int.tmod_eq_emod_of_nonneg (by omega)]; omega
 ·rw[IntWalk.i64_in _ (by omega)]; omega
 ·rw[IntWalk.i64_in _ (by omega)]; omega
 ·rw[IntWalk.i64_in _ (by omega)]; omega
 ·rw[IntWalk.i64_in _ (by omega)]; omega
def WriteRel (W1:World) (base B Bd Bf:Nat) (D:Nat→Prop) (g:Sp.Geom) (i:Int) (ks:List Int) (f:Nat) (S:Sp.Side) (F:File) (off:Nat) (d0:List UInt8) (vb q:Value) (wr:World):Prop:=
 ∃(f' a:Nat) (t:BSt) (d:List UInt8) (vm:Value) (D':Nat→Prop),q = .int .i64 (a:Int)∧PutsAt g i ks f ⟨S,F,[]⟩ off d0 f' t a d∧Fine t∧FM W1 base B Bd Bf D g i (q1z g i) F.node t vb vm D' wr
theorem Fine.fresh2 {t:BSt} (h:Fine t) (hm:t.made.length+3≤1000000) (g:Sp.Geom) (i:Int) (ks:List Int) (q:Nat):Fine (t.listed g i ks q):=by
 unfold BSt.listed
 split
 ·exact(h.fresh (by omega) g ks Sp.blank).chg (by rw[q87z]; omega) _ _ _ _
 ·exact h
theorem Fine.put {t:BSt} (h:Fine t) (hm:t.made.length+6≤1000000) (g:Sp.Geom) (i:Int) (ks:List Int) (q off:Nat) (x:ByteArray):Fine (t.put g i ks q off x):=by
 unfold BSt.put
 split
 ·exact h.chg (by omega) _ _ _ _
 ·have hl:=listed_len t g i ks q
  exact((h.fresh2 (by omega) g i ks q).fresh (by omega) g ks (allB off x)).chg (by rw[q87z]; omega) _ _ _ _
section
set_option maxHeartbeats 4000000
set_option maxRecDepth 20000 in
theorem bwriteF_any {w:World} {base B Bd:Nat} {S:Sp.Side} {D:Nat→Prop} (h:SideAt w base B Bd S D) (hD:∀j,D j→j<w.heap.size) {g:Sp.Geom} {i:Int} {F:File} (hs:Stands S g i F) (hlast:S.deps.last≤900000000) (hkind:F.kind≠0) (hnn:∀b∈F.blocks,0≤b)
 (vk:Value) (ks:List Int) (hv:∀W,Turn D w W→Ints W vk ks) (hks:∀k∈ks,0≤k∧k<g.groups) (off:Nat) (x:ByteArray) (hx:x.data.toList≠[]) (hoff:off+x.data.toList.length≤2560) (f:Nat) (hf:off % 64+x.data.toList.length≤64*f) (hf2:f≤100) :
 Calls Tryz.prog 83 #[pt B,gV g,.int .i64 i,.int .i64 (off:Int),.string x,vk] w (q137z w base B Bd D ((⟨S,F,[]⟩:BSt).writeC g i ks f off x.data.toList) ((⟨S,F,[]⟩:BSt).write g i ks f off x.data.toList)):=by
 have hn:∀t:BSt,∀x,t.freshC g ks x=0→0≤t.newN g ks:=fun t x h=>(q114z hs.gok hks h).1
 have hst:=PutsAt.start (g:=g) (i:=i) (ks:=ks) (t0:=⟨S,F,[]⟩) (off:=off) (d0:=x.data.toList) ⟨hs.file.len,hnn⟩ hf
 obtain⟨ga,gb,gc⟩:=g
 unfold gV pt
 obtain⟨W0,hW0⟩:=zg w ga gb gc
 have hk:=q30z hW0
 have HB0:=zh hk.1
 have HK:=zh hk.2
 clear hk
 have hsz:W0.heap.size=w.heap.size+1:=by rw[←hW0]; simp
 obtain⟨W1,hW1⟩:=zx (W0.alloc (.cells #[.int .i64 0] 25))
 have HB1:Hid (Below W0.heap.size W0 W1):=by rw[←hW1]; exact bl2 _
 have HZ1:Hid (W1.heap[w.heap.size+1]? = some (.cells #[.int .i64 0] 25 (0,0))):=by rw[←hW1,←hsz]; exact heapNew W0 _
 have hbw:Below w.heap.size w W1:=blN HB0.out HB1.out
 have hbs:=h.baseLe
 have hop:=bopen_any (Below.refl W1.heap.size W1) (h.below hbw).baseLe (h.below hbw) (fun j hj=>Nat.lt_of_lt_of_le (hD j hj) hbw.size) hs
 unfold OpenPost gV pt at hop
 obtain⟨z0,z1,z2⟩:=HK.out W1 HB1.out
 have hnm:x.toList.isEmpty=false:=by
  rw[Lib.toList_data,List.isEmpty_eq_false_iff]
  exact hx
 have hl64:x.size=x.data.toList.length:=rfl
 have HOP:=zh hop
 have HXL:=zh hl64
 clear hop hl64 hbw
 have H:=zh h
 have HS:=zh hs
 have HLAST:=zh hlast
 have HKIND:=zh hkind
 have HNN:=zh hnn
 have HV:=zh hv
 have HKS:=zh hks
 have HX:=zh hx
 have HOFF:=zh hoff
 have HF:=zh hf
 have HF2:=zh hf2
 have HN:=zh hn
 have HST:=zh hst
 clear h hs hlast hkind hnn hv hks hx hoff hf hf2 hn hst
 go_enter_defers Tryz.func83,Tryz.ntmps83
 go_wp2_with fail
 refine HOP.out.mono ?_
 rintro e w2 ⟨Bf,vb,rfl,hM,hb2⟩
 have HM:=zh hM
 have hwi:=bwithin_ok hM HKIND.out (off:=off) (long:=x.size) (by omega) (by omega) (by have:=HXL.out; have:=HOFF.out; omega)
 unfold pt at hwi
 have HWI:=zh hwi
 clear hwi hM
 go_wp2_with fail
 refine HWI.out.mono ?_
 rintro e w3 ⟨rfl,hw3⟩
 replace hw3:=hw3.symm
 subst hw3
 obtain⟨E,hE⟩:∃E:Nat,off+x.size=E:=⟨_,rfl⟩
 have e1:IntKind.i64.wrap ((off:Int)+(x.size:Int))=(E:Int):=by rw[←hE]; exact IntWalk.i64_in _ (by have:=HXL.out; have:=HOFF.out; omega)
 have hE64:(E:Int)≤2560:=by have:=HXL.out; have:=HOFF.out; omega
 have HE:=zh hE
 clear hE
 go_wp2
 have HR0:Hid (WriteRel W1 base B Bd Bf D ⟨ga,gb,gc⟩ i ks f S F off x.data.toList vb (.int .i64 (off:Int)) w2):=⟨f,off,_,_,_,_,rfl,HST.out,⟨HS.out.ok,by have:=HLAST.out; show S.deps.last≤900000000+0; omega⟩,HM.out⟩
 clear hE64
 go_loopw [16] (fun q wr=>WriteRel W1 base B Bd Bf D ⟨ga,gb,gc⟩ i ks f S F off x.data.toList vb q wr) (fun q _=>E-(intOf q).toNat)
 case atStart=>exact HR0.out
 case round=>
  clear HR0 HM HWI HOP HST z0 z1 z2 hb2
  obtain⟨f',a,t,d,vm,D',rfl,hp,hfn,hM⟩:=hrel
  obtain⟨a1,a2,a3⟩:=hp.at_
  have hE:=HE.out
  have hXL:=HXL.out
  have hOF:=HOFF.out
  by_cases hd:d=[]
  ·subst hd
   have haE:a=E:=by rw[List.length_nil] at a3; omega
   subst haE
   obtain⟨hd1,hd2⟩:=hp.done
   have hml:t.made.length≤600:=by have:=hp.made; have:=HF2.out; have e0:(⟨S,F,[]⟩:BSt).made.length=0:=rfl; omega
   have hnlt:¬a<a:=by omega
   have hnlt2:decide ((a:Int)<(a:Int))=false:=decide_eq_false (by omega)
   have x8a:=zc 8 hM.core.box
   have x8:wr.cell? ⟨Bf,8,none⟩=some (.int .i64 F.size):=x8a
   clear x8a
   have hz6:wr.heap[w.heap.size+1]? = some (.cells #[.int .i64 0] 25 (0,0)):=hM.core.tn.heap HZ1.out (fun hd=>by have:=hD _ hd; omega)
   have hEo:((off+x.data.toList.length:Nat):Int)=(a:Int):=by omega
   by_cases hsz':F.size<(a:Int)
   ·have hw:(⟨S,F,[]⟩:BSt).writeC ⟨ga,gb,gc⟩ i ks f off x.data.toList=t.sizedC ⟨ga,gb,gc⟩ i (a:Int) t.made∧(⟨S,F,[]⟩:BSt).write ⟨ga,gb,gc⟩ i ks f off x.data.toList=t.sized ⟨ga,gb,gc⟩ i (a:Int) t.made:=by
     unfold BSt.writeC BSt.write
     rw[hd2,q11z rfl,hd1,hEo]
     exact⟨if_pos hsz',if_pos hsz'⟩
    have q5:decide ((a:Int) > F.size)=true:=decide_eq_true hsz'
    have hpc:=fun W:World=>isize_any W (a:Int) (by omega) (by omega)
    have hpa:=fun(W:World) (off:Int) (y:ByteArray)=>bpatch_any W off y
    have hbd:Below wr.heap.size wr wr.drew:=blD (Below.refl _ _)
    have hch:=fun W (hW:Below wr.drew.heap.size wr.drew W)=>q105z (hM.below (blN hbd hW)) hfn.1 (hfn.last (by omega)) (by omega) (q1z ⟨ga,gb,gc⟩ i) 2 (putB 2 (a:Int)) vm t.made (OwnR.row (f:=intC) (fun _ _=>rfl) (hM.below (blN hbd hW)).mad) (by omega)
    have x21:=zc 21 hM.core.box
    have x5:=zc 5 hM.core.box
    have x21b:wr.cell? ⟨Bf,21,none⟩=some vm:=x21
    obtain⟨sec,hsec⟩:=zx (q1z ⟨ga,gb,gc⟩ i)
    have x5b:wr.cell? ⟨Bf,5,none⟩=some (.int .i64 sec):=by rw[←hsec]; exact x5
    have hS:∀W,Below wr.drew.heap.size wr.drew W→W.cell? ⟨Bf,5,none⟩=some (.int .i64 sec)∧W.cell? ⟨Bf,21,none⟩=some vm:=fun W hW=>by
     have hlt:Bf<wr.drew.heap.size:=hM.core.bf
     exact⟨(hW.cell (p:=⟨Bf,5,none⟩) hlt).trans x5b,(hW.cell (p:=⟨Bf,21,none⟩) hlt).trans x21b⟩
    have hfin:∀W e we,Below wr.drew.heap.size wr.drew W→FDone W1 base B Bd Bf D ⟨ga,gb,gc⟩ i sec F.node vb (Foot Bf vb vm D') W (t.sizedC ⟨ga,gb,gc⟩ i (a:Int) t.made) (.int .i64 (t.S.changeN sec 2 (putB 2 (a:Int)) t.made)) (t.chg sec 2 (putB 2 (a:Int)) t.made) e we →
     Turn D W1 we∧(t.sizedC ⟨ga,gb,gc⟩ i (a:Int) t.made=0→∃vm',we.cell? ⟨Bf,21,none⟩=some vm'∧we.cell? ⟨w.heap.size+1,0,none⟩=some (.int .i64 0)∧we.frozen? ⟨w.heap.size+1,0,none⟩=false∧(we.setCell ⟨w.heap.size+1,0,none⟩ (.int .i64 0)).heap[w.heap.size+1]? = some (.cells #[.int .i64 0] 25 (0,0)) ∧
      q137z w base B Bd D ((⟨S,F,[]⟩:BSt).writeC ⟨ga,gb,gc⟩ i ks f off x.data.toList) ((⟨S,F,[]⟩:BSt).write ⟨ga,gb,gc⟩ i ks f off x.data.toList) (.returned (.tuple #[vm',.int .i64 0])) (we.setCell ⟨w.heap.size+1,0,none⟩ (.int .i64 0))) ∧
     (t.sizedC ⟨ga,gb,gc⟩ i (a:Int) t.made≠0→we.cell? ⟨w.heap.size+1,0,none⟩=some (.int .i64 0)∧we.frozen? ⟨w.heap.size+1,0,none⟩=false∧(we.setCell ⟨w.heap.size+1,0,none⟩ (.int .i64 (t.sizedC ⟨ga,gb,gc⟩ i (a:Int) t.made))).heap[w.heap.size+1]? = some (.cells #[.int .i64 (t.sizedC ⟨ga,gb,gc⟩ i (a:Int) t.made)] 25 (0,0)) ∧
       q137z w base B Bd D ((⟨S,F,[]⟩:BSt).writeC ⟨ga,gb,gc⟩ i ks f off x.data.toList) ((⟨S,F,[]⟩:BSt).write ⟨ga,gb,gc⟩ i ks f off x.data.toList) (.returned (.tuple #[.slice none 0 0,.int .i64 (t.sizedC ⟨ga,gb,gc⟩ i (a:Int) t.made)])) (we.setCell ⟨w.heap.size+1,0,none⟩ (.int .i64 (t.sizedC ⟨ga,gb,gc⟩ i (a:Int) t.made)))):=fun W e we hW hd=>by
     have hTW:=(hM.below (blN hbd hW)).all hd.2
     have hzw:we.heap[w.heap.size+1]? = some (.cells #[.int .i64 0] 25 (0,0)):=hTW.heap HZ1.out (fun hd=>by have:=hD _ hd; omega)
     refine⟨hTW,fun h0=>?_,fun h0=>⟨zc 0 hzw,q4z hzw,q13z (k:=0) hzw _,?_⟩⟩
     ·obtain⟨vm',D2,hM2,_,_⟩:=hd.got h0
      have hM3:FM W1 base B Bd Bf D ⟨ga,gb,gc⟩ i sec F.node (t.sized ⟨ga,gb,gc⟩ i (a:Int) t.made) vb vm' D2 we:=by
       have:=hM2.resize (a:Int)
       rw[←hsec] at this ⊢
       exact this
      have hf:=hM3.finish (blN HB0.out HB1.out) hD hbs (q:=w.heap.size+1) (Nat.le_succ _) (Array.getElem?_eq_some_iff.1 HZ1.out).1 (.int .i64 0)
      have hf2:=hM3.fine (blN HB0.out HB1.out) hD hbs (q:=w.heap.size+1) (Nat.le_succ _) (Array.getElem?_eq_some_iff.1 HZ1.out).1 (.int .i64 0)
      refine⟨vm',zc 21 hM2.core.box,zc 0 hzw,q4z hzw,q13z (k:=0) hzw _,?_⟩
      rw[hw.1,hw.2]
      exact Or.inl ⟨h0,vm',rfl,hf,hf2⟩
     ·rw[hw.1,hw.2]
      exact Or.inr ⟨h0,rfl,((Turn.of_below (K:=D) (blN HB0.out HB1.out)).trans hTW (fun _ _ h=>h) (fun _ _ h=>h)).trans (K:=D) (q14z (b:=w.heap.size+1) (k:=0)) (fun _ _ h=>h) (fun j hj e=>by omega)⟩
    rw[show BSt.sizedC t ⟨ga,gb,gc⟩ i (a:Int) t.made=t.S.changeC sec 2 (putB 2 (a:Int)) t.made by unfold BSt.sizedC; rw[hsec]] at hfin
    rw[hsec] at hch
    obtain⟨P,hP⟩:=zx (putB 2 (a:Int))
    rw[hP] at hpc hch hfin
    obtain⟨C,hC⟩:=zx (t.S.changeC sec 2 P t.made)
    obtain⟨NN,hNN⟩:=zx (t.S.changeN sec 2 P t.made)
    obtain⟨T1,hT1⟩:=zx (t.chg sec 2 P t.made)
    rw[hC,hNN,hT1] at hch hfin
    unfold pt at hch
    have hSd:=hS wr.drew (Below.refl _ _)
    have HS_:=zh hS
    clear hS
    have HPC:=zh hpc
    have HPA:=zh hpa
    have HCH:=zh hch
    have HFIN:=zh hfin
    clear hpc hpa hch hfin
    clear hw hz6 x21 x5 hM hp hfn hd1 hd2 a1 a2 a3 hml hsz' hEo hXL hOF hE hsec hP hC hNN hT1 hbd
    go_wp2_with fail
    clear x5b x21b x8
    refine wp_region_tail (fun W=>W.cell? ⟨Bf,5,none⟩=some (.int .i64 sec)∧W.cell? ⟨Bf,21,none⟩=some vm) 14 (by kernel_rfl) (by kernel_rfl) (by first | trivial | assumption) (fun hHeld hLast hX0=>?_)
    refine tkT 0 ?_ rfl (hQ:=(q23z (q59z _ _ (by decide) (by decide)))); clear hX0; intro hX0; simp only[Act.put,ps0]
    refine tkT 1 ?_ rfl (hQ:=(q23z (q59z _ _ (by decide) (by decide)))); clear hX0; intro hX0; simp only[Act.put,ps0]
    refine tkT 2 ?_ rfl (hQ:=(q23z (q59z _ _ (by decide) (by decide)))); clear hX0; intro hX0; simp only[Act.put,ps0]
    refine tkT 3 ?_ rfl (hQ:=(q23z (q59z _ _ (by decide) (by decide)))); clear hX0; intro hX0; simp only[Act.put,ps0]
    refine tkT 4 ?_ rfl (hQ:=(q23z (q59z _ _ (by decide) (by decide)))); clear hX0; intro hX0; simp only[Act.put,ps0]
    refine tkT 5 ?_ rfl (hQ:=(q23z (q59z _ _ (by decide) (by decide)))); clear hX0; intro hX0; simp only[Act.put,ps0]
    refine tkT 10 ?_ rfl (hQ:=(q23z (q59z _ _ (by decide) (by decide)))); clear hX0; intro hX0; simp only[Act.put,ps0]
    refine tkT 11 ?_ rfl (hQ:=(q23z (q59z _ _ (by decide) (by decide)))); clear hX0; intro hX0; simp only[Act.put,ps0]
    refine tkT 12 ?_ rfl (hQ:=(q23z (q59z _ _ (by decide) (by decide)))); clear hX0; intro hX0; simp only[Act.put,ps0]
    refine tkT 13 ?_ rfl (hQ:=(q23z (q59z _ _ (by decide) (by decide)))); clear hX0; intro hX0; simp only[Act.put,ps0]
    refine AnyT.one (i:=6) hX0 (by kernel_rfl) rfl (fun K hK=>?_)
    try simp only[gg0]
    go_simp
    refine(HPC.out _).mono ?_
    rintro e w3 ⟨rfl,hb3⟩
    have HB3:=zh hb3
    clear hb3
    try simp only
    refine hK.out _ _ (fun _=>?hkS) (fun hHeld2 hX1=>?_)
    case hkS=>
     exact HS_.out _ HB3.out
    have hHeld:=hHeld2 (by decide)
    clear hK K hHeld2 hX0; have hX0:=hX1; clear hX1
    try simp only[Act.put,ps0]
    refine tkT 7 ?_ rfl (hQ:=(q23z (q59z _ _ (by decide) (by decide)))); clear hX0; intro hX0; simp only[Act.put,ps0]
    refine tkT 8 ?_ rfl (hQ:=(q23z (q59z _ _ (by decide) (by decide)))); clear hX0; intro hX0; simp only[Act.put,ps0]
    refine AnyT.one (i:=9) hX0 (by kernel_rfl) rfl (fun K hK=>?_)
    try simp only[gg0]
    go_simp
    refine(HPA.out _ _ _).mono ?_
    rintro e w4 ⟨rfl,hb4⟩
    have HB4:=zh (blN HB3.out hb4)
    clear hb4
    try simp only
    refine hK.out _ _ (fun _=>?hkS) (fun hHeld2 hX1=>?_)
    case hkS=>
     exact HS_.out _ HB4.out
    have hHeld:=hHeld2 (by decide)
    clear hK K hHeld2 hX0; have hX0:=hX1; clear hX1
    try simp only[Act.put,ps0]
    refine AnyT.one (i:=14) hX0 (by kernel_rfl) rfl (fun K hK=>?_)
    try simp only[gg0]
    go_simp
    refine(HCH.out _ HB4.out).mono ?_
    intro e we hd
    obtain⟨hTW,hok,hno⟩:=HFIN.out _ _ _ HB4.out hd
    obtain⟨hd1,-⟩:=hd
    rcases hd1 with ⟨h0,rfl,-⟩ | ⟨h0,rfl⟩
    ·obtain⟨vm',y21,c6,v6,hz7,hEnd⟩:=hok h0
     have HEnd:=zh hEnd
     have HZ7:=zh hz7
     clear hok hno hTW hz7 hEnd h0
     try simp only
     refine hK.out _ _ (fun h=>absurd rfl h) (fun _ _=>?_)
     clear hK K
     try simp only[Act.put,ps0]
     refine AnyT.done (by kernel_rfl) ?_ _
     go_wp2
     refine leaves_cons (f:=96) (args:=#[.pointer (some ⟨w.heap.size+1,0,none⟩)]) (by simp) (by simp[go_sem]) ?_
     refine(q76z ⟨w.heap.size+1,0,none⟩ _).mono ?_
     rintro e u' w'' ⟨rfl,rfl,rfl⟩
     obtain⟨W7,hW7⟩:=zx (we.setCell ⟨w.heap.size+1,0,none⟩ (.int .i64 0))
     have hz8:=HZ7.out
     have hEnd:=HEnd.out
     rw[hW7] at hz8 hEnd ⊢
     have u0:=zc 0 hz8
     simp[Leaves,settle,results,Tryz.results83,go_sem,u0]
     exact hEnd
    ·obtain⟨c6,v6,hz7,hEnd⟩:=hno h0
     have HEnd:=zh hEnd
     have HZ7:=zh hz7
     clear hok hno hTW hz7 hEnd h0
     refine leaves_cons (f:=96) (args:=#[.pointer (some ⟨w.heap.size+1,0,none⟩)]) (by simp) (by simp[go_sem]) ?_
     refine(caught_stop ⟨w.heap.size+1,0,none⟩ C (.int .i64 0) [] we c6 v6).mono ?_
     rintro e u' w'' ⟨rfl,rfl,rfl⟩
     obtain⟨W7,hW7⟩:=zx (we.setCell ⟨w.heap.size+1,0,none⟩ (.int .i64 C))
     have hz8:=HZ7.out
     have hEnd:=HEnd.out
     rw[hW7] at hz8 hEnd ⊢
     have u0:=zc 0 hz8
     simp[Leaves,settle,results,Tryz.results83,go_sem,u0]
     exact hEnd
   ·have hw:(⟨S,F,[]⟩:BSt).writeC ⟨ga,gb,gc⟩ i ks f off x.data.toList=0∧(⟨S,F,[]⟩:BSt).write ⟨ga,gb,gc⟩ i ks f off x.data.toList=t:=by
     unfold BSt.writeC BSt.write
     rw[hd2,q11z rfl,hd1,hEo]
     exact⟨if_neg hsz',if_neg hsz'⟩
    have q5:decide ((a:Int) > F.size)=false:=decide_eq_false (by omega)
    have x21:=zc 21 hM.core.box
    have hfin:=And.intro (hM.finish (blN HB0.out HB1.out) hD hbs (q:=w.heap.size+1) (Nat.le_succ _) (Array.getElem?_eq_some_iff.1 HZ1.out).1 (.int .i64 0)) (hM.fine (blN HB0.out HB1.out) hD hbs (q:=w.heap.size+1) (Nat.le_succ _) (Array.getElem?_eq_some_iff.1 HZ1.out).1 (.int .i64 0))
    have hEnd:q137z w base B Bd D ((⟨S,F,[]⟩:BSt).writeC ⟨ga,gb,gc⟩ i ks f off x.data.toList) ((⟨S,F,[]⟩:BSt).write ⟨ga,gb,gc⟩ i ks f off x.data.toList) (.returned (.tuple #[vm,.int .i64 0])) (wr.setCell ⟨w.heap.size+1,0,none⟩ (.int .i64 0)):=by
     rw[hw.1,hw.2]
     exact Or.inl ⟨rfl,vm,rfl,hfin.1,hfin.2⟩
    have x21b:wr.cell? ⟨Bf,21,none⟩=some vm:=x21
    have c6:=zc 0 hz6
    have v6:wr.frozen? ⟨w.heap.size+1,0,none⟩=false:=q4z hz6
    have HEnd:=zh hEnd
    have HZ7:=zh (q13z (k:=0) hz6 (.int .i64 0))
    clear hEnd hfin hw hz6 x21 hM hp hfn hd1 hd2 a1 a2 a3 hml hsz' hEo hXL hOF hE
    go_wp2
    refine leaves_cons (f:=96) (args:=#[.pointer (some ⟨w.heap.size+1,0,none⟩)]) (by simp) (by simp[go_sem]) ?_
    refine(q76z ⟨w.heap.size+1,0,none⟩ _).mono ?_
    rintro e u' w'' ⟨rfl,rfl,rfl⟩
    obtain⟨W7,hW7⟩:=zx (wr.setCell ⟨w.heap.size+1,0,none⟩ (.int .i64 0))
    have hz8:=HZ7.out
    have hEnd:=HEnd.out
    rw[hW7] at hz8 hEnd ⊢
    have u0:=zc 0 hz8
    simp[Leaves,settle,results,Tryz.results83,go_sem,u0]
    exact hEnd
  ·have hdl:0<d.length:=List.length_pos_iff.2 hd
   obtain⟨k,rfl⟩:=hp.some hd
   have hml:t.made.length+6≤1000000:=by have:=hp.made; have:=HF2.out; show _≤_; have e0:(⟨S,F,[]⟩:BSt).made.length=0:=rfl; omega
   have hcall:=fput_any hM hfn hml (vk:=vk) (ks:=ks) (fun K w1=>⟨HS.out.gok,rfl,HKS.out,fun W hT=>HV.out W ((Turn.of_below (K:=D) (blN HB0.out HB1.out)).trans hT (fun _ _ h=>h) (fun _ _ h=>h))⟩) hp.blk.1 (q:=a / 64) (by omega) (hp.blk.getD _) (a % 64) (ofL (d.take (64-a % 64))) (by rw[Lib.size_eq,q8z,List.length_take]; omega) (by rw[Lib.size_eq,q8z,List.length_take]; omega)
   have hnext:=fun hc=>hp.next hd HN.out hc
   have hstop:=fun hc=>hp.stop hd hc
   have hfput:=hfn.put hml ⟨ga,gb,gc⟩ i ks (a / 64) (a % 64) (ofL (d.take (64-a % 64)))
   have hex:x.extract (a-off) (a-off+min d.length (64-a % 64))=ofL (d.take (64-a % 64)):=extract_eq a2 rfl
   obtain⟨Q,hQ⟩:=zx (a / 64)
   obtain⟨R,hR⟩:=zx (a % 64)
   rw[hR] at hex hnext hstop hfput hcall
   obtain⟨nx,hnx⟩:=zx (a+min d.length (64-R))
   obtain⟨A1,hA1⟩:=zx (a-off)
   obtain⟨N1,hN1⟩:=zx (nx-off)
   obtain⟨Q1,hQ1⟩:∃Q1:Nat,Q+1=Q1:=⟨_,rfl⟩
   obtain⟨Q2,hQ2⟩:∃Q2:Nat,Q1*64=Q2:=⟨_,rfl⟩
   have haE:a+d.length=E:=by omega
   have hlt2:a<E:=by omega
   obtain⟨hlt,d1,d2,wq,w1,w2',m1,s1,s2,b1,b2,hmeas,hAN⟩:=round_nums hQ hR hnx hA1 hN1 hQ1 hQ2 a1 haE hdl (by omega) hE
   rw[hA1,hAN] at hex
   rw[hnx] at hnext
   rw[hQ] at hcall hnext hstop hfput
   obtain⟨P,hP⟩:=zx (ofL (d.take (64-R)))
   rw[hP] at hcall hnext hstop hfput hex
   have hsl:∀W:World,(Instr.slice 9 (.string x) (some (.int .i64 (A1:Int))) (some (.int .i64 (N1:Int))) none).run Tryz.prog W = .ok (.string P) W:=fun W=>by
    rw[run_slice_string W 9 x .i64 .i64 (A1:Int) (N1:Int) Tryz.underlying9 (by omega) (by omega) (by omega),Int.toNat_natCast,Int.toNat_natCast,hex]
   clear b1 b2 hex
   obtain⟨T1,hT1⟩:=zx (t.put ⟨ga,gb,gc⟩ i ks Q R P)
   obtain⟨C,hC⟩:=zx (t.putC ⟨ga,gb,gc⟩ i ks Q R P)
   rw[hT1,hC] at hcall hnext
   rw[hC] at hstop
   rw[hT1] at hfput
   unfold pt at hcall
   have HCALL:=zh hcall
   have HNEXT:=zh hnext
   have HSTOP:=zh hstop
   have HFPUT:=zh hfput
   have HM:=zh hM
   have HMEAS:=zh hmeas
   clear hcall hnext hstop hfput hM hmeas
   clear hp hfn a1 a2 a3 hE hXL hOF hd hdl hml hQ hR hnx hA1 hN1 hP hT1 hC hQ1 hQ2 haE hAN
   go_wp2_with fail
   refine HCALL.out.mono ?_
   intro e w6 hd6
   rcases hd6.1 with ⟨h0,rfl,vm6,D6,hM6,-⟩ | ⟨h0,rfl⟩
   ·have HRel:Hid (WriteRel W1 base B Bd Bf D ⟨ga,gb,gc⟩ i ks f S F off x.data.toList vb (.int .i64 (nx:Int)) w6):=⟨k,nx,T1,_,vm6,D6,rfl,HNEXT.out h0,HFPUT.out,hM6⟩
    clear hM6 hd6 h0
    go_wp2
    go_roundw
    case rel=>exact HRel.out
    case measure=>
     have:=HMEAS.out
     simp[intOf]
     omega
   ·have hT6:=HM.out.all hd6.2
    have hcode:=HSTOP.out h0
    clear hd6
    have hz6:w6.heap[w.heap.size+1]? = some (.cells #[.int .i64 0] 25 (0,0)):=hT6.heap HZ1.out (fun hd=>by have:=hD _ hd; omega)
    have hz7:=q13z (k:=0) hz6 (.int .i64 C)
    have hEnd:q137z w base B Bd D ((⟨S,F,[]⟩:BSt).writeC ⟨ga,gb,gc⟩ i ks f off x.data.toList) ((⟨S,F,[]⟩:BSt).write ⟨ga,gb,gc⟩ i ks f off x.data.toList) (.returned (.tuple #[.slice none 0 0,.int .i64 C])) (w6.setCell ⟨w.heap.size+1,0,none⟩ (.int .i64 C)):=by
     have hw:(⟨S,F,[]⟩:BSt).writeC ⟨ga,gb,gc⟩ i ks f off x.data.toList=C:=by
      unfold BSt.writeC
      rw[hcode,q37z h0]
     rw[hw]
     exact Or.inr ⟨h0,rfl,((Turn.of_below (K:=D) (blN HB0.out HB1.out)).trans hT6 (fun _ _ h=>h) (fun _ _ h=>h)).trans (K:=D) (q14z (b:=w.heap.size+1) (k:=0)) (fun _ _ h=>h) (fun j hj e=>by omega)⟩
    have HEnd:=zh hEnd
    have c6:=zc 0 hz6
    have v6:w6.frozen? ⟨w.heap.size+1,0,none⟩=false:=q4z hz6
    have HZ7:=zh hz7
    clear hEnd hz6 hz7 hT6 hcode h0
    unfold stopE
    go_wp2
    refine leaves_cons (f:=96) (args:=#[.pointer (some ⟨w.heap.size+1,0,none⟩)]) (by simp) (by simp[go_sem]) ?_
    refine(caught_stop ⟨w.heap.size+1,0,none⟩ C (.int .i64 0) [] w6 c6 v6).mono ?_
    rintro e u' w'' ⟨rfl,rfl,rfl⟩
    obtain⟨W7,hW7⟩:=zx (w6.setCell ⟨w.heap.size+1,0,none⟩ (.int .i64 C))
    have hz8:=HZ7.out
    have hEnd:=HEnd.out
    rw[hW7] at hz8 hEnd ⊢
    have u0:=zc 0 hz8
    simp[Leaves,settle,results,Tryz.results83,go_sem,u0]
    exact hEnd
theorem bwrite_any {w:World} {base B Bd:Nat} {S:Sp.Side} {D:Nat→Prop} (h:SideAt w base B Bd S D) (hD:∀j,D j→j<w.heap.size) {g:Sp.Geom} {i:Int} {F:File} (hs:Stands S g i F) (hlast:S.deps.last≤900000000) (hkind:F.kind≠0) (hnn:∀b∈F.blocks,0≤b)
 (vk:Value) (ks:List Int) (hv:∀W,Turn D w W→Ints W vk ks) (hks:∀k∈ks,0≤k∧k<g.groups) (off:Nat) (x:ByteArray) (hx:x.data.toList≠[]) (hoff:off+x.data.toList.length≤2560) (f:Nat) (hf:off % 64+x.data.toList.length≤64*f) (hf2:f≤100) :
 Calls Tryz.prog 83 #[pt B,gV g,.int .i64 i,.int .i64 (off:Int),.string x,vk] w (q173z w base B Bd D ((⟨S,F,[]⟩:BSt).writeC g i ks f off x.data.toList) ((⟨S,F,[]⟩:BSt).write g i ks f off x.data.toList)):=
 (bwriteF_any h hD hs hlast hkind hnn vk ks hv hks off x hx hoff f hf hf2).mono (fun _ _ hp=>hp.post)
end
