/-
 Walks of layer 16: Clear of an inode that is free.
-/
import Derived.Test.YtgofmnhfajmbfaaGreatDoorBmClear
import Derived.Test.YtgofmnhfajmbfaaGreatDoorReadsMem
namespace Go.Proofs.YtgofmnhfajmbfaaGreatDoor
open Go Go.RowKit Txt Sp
section
set_option maxHeartbeats 4000000
set_option maxRecDepth 20000 in
theorem bclearNo_any {w:World} {base B Bd:Nat} {S:Sp.Side} {D:Nat→Prop} (h:SideAt w base B Bd S D) (hD:∀j,D j→j<w.heap.size) {g:Sp.Geom} {i:Int} {F:File} (hs:Stands S g i F) (hkind:F.kind=0) :
 Calls Tryz.prog 27 #[pt B,gV g,.int .i64 i,.slice none 0 0] w fun e w'=>e = .returned (.tuple #[.slice none 0 0,.int .i64 120])∧Below w.heap.size w w':=by
 obtain⟨ga,gb,gc⟩:=g
 unfold gV pt
 obtain⟨W0,hW0⟩:∃W,w.alloc (.cells #[.int .i64 ga,.int .i64 gb,.int .i64 gc] 23)=W:=⟨_,rfl⟩
 have hk:=q30z hW0
 have HB0:=Lib.hid hk.1
 have HK:=Lib.hid hk.2
 clear hk
 have hsz:W0.heap.size=w.heap.size+1:=by rw[←hW0]; simp
 obtain⟨W1,hW1⟩:∃W,W0.alloc (.cells #[.int .i64 0] 25)=W:=⟨_,rfl⟩
 have HB1:Hid (Below W0.heap.size W0 W1):=by rw[←hW1]; exact bl2 _
 have HZ1:Hid (W1.heap[w.heap.size+1]? = some (.cells #[.int .i64 0] 25 (0,0))):=by rw[←hW1,←hsz]; exact q3z W0 _
 have hbw:Below w.heap.size w W1:=blN HB0.out HB1.out
 have hop:=bopen40_any (Below.refl W1.heap.size W1) (h.below hbw).baseLe (h.below hbw) (fun j hj=>Nat.lt_of_lt_of_le (hD j hj) hbw.size) hs
 unfold q183z gV pt at hop
 obtain⟨z0,z1,z2⟩:=HK.out W1 HB1.out
 have HOP:=Lib.hid hop
 clear hop hbw
 have H:=Lib.hid h
 have HS:=Lib.hid hs
 have HKIND:=Lib.hid hkind
 clear h hs hkind
 go_enter_defers Tryz.func27,Tryz.ntmps27
 go_wp2_with fail
 refine HOP.out.mono ?_
 rintro e w2 ⟨Bf,vg,rfl,hM,hb2⟩
 have hwi:=bwithin_free hM HKIND.out 0 0
 unfold pt at hwi
 have HWI:=Lib.hid hwi
 have HD:Hid (AtDoor w (w.heap.size+1) 120 (fun e w'=>e = .returned (.tuple #[.slice none 0 0,.int .i64 120])∧Below w.heap.size w w') (.slice none 0 0) w2):=by
  refine AtDoor.mk' (q1z hb2 HZ1.out) ⟨rfl,?_⟩
  have hbw:Below w.heap.size w w2:=blN HB0.out (blN HB1.out hb2)
  exact hbw.trans ((q10z (b:=w.heap.size+1) (k:=0)).below (fun j e=>by omega) hbw.size)
 clear hwi hM z0 z1 z2 hb2 HOP
 go_wp2_with fail
 refine HWI.out.mono ?_
 rintro e w3 ⟨rfl,hw3⟩
 replace hw3:=hw3.symm
 subst hw3
 unfold stopE
 go_wp2
 refine leaves_cons (f:=96) (args:=#[.pointer (some ⟨w.heap.size+1,0,none⟩)]) (by simp) (by simp[go_sem]) ?_
 refine(q76z ⟨w.heap.size+1,0,none⟩ _ (.int .i64 0) [] _ HD.out.cell HD.out.free).mono ?_
 rintro e u' w'' ⟨rfl,rfl,rfl⟩
 have hz8:=HD.out.set
 have hEnd:=HD.out.fin
 clear HD
 generalize World.setCell _ ⟨w.heap.size+1,0,none⟩ _=W7 at hz8 hEnd ⊢
 have u0:=cellOf (k:=0) hz8 rfl
 simp[Leaves,settle,results,Tryz.results27,go_sem,u0]
 exact hEnd.2
end
def Plain1 (F:File):Prop:=F.kind=1∧F.parent=0∧F.gen=1∧(0≤F.links∧F.links≤255)∧(0≤F.size∧F.size≤2560)
def Fr (g:Sp.Geom) (S:Sp.Side):Nat→Prop
 | 0=>∃F G Y r,Bm2 g 2 3 S F G [1,2,3] Y r∧Full Y F G∧Plain1 F∧Plain1 G∧r≤262
 | 1=>∃G Y r,Bm2 g 2 3 S (bare 1) G [1,3] Y r∧Full Y (bare 1) G∧Plain1 G∧r≤305
 | _=>∃Y r,Bm2 g 2 3 S (bare 1) (bare 1) [1] Y r∧Full Y (bare 1) (bare 1)∧r≤348
theorem fr_held {S:Sp.Side} {g:Sp.Geom} {X Y:List Int} {r:Nat} (h:Held S g X Y r) (hg:g.ok) {ks:List Int} (hk:∀k,k∈ks↔0≤k∧k<g.groups) (hd:ks.Nodup) (hl:(ks.length:Int)=g.groups) :
 S.freeL g ks=some (g.groups*g.inodes-X.length,g.groups*g.blocks-Y.length):=by
 rw[freeL_sum h.ti h.tb ks (fun k h=>(hk k).1 h),h.ti.sum (inodeNo_inj g) hk hd,h.tb.sum (q54z hg) hk hd,hl]
section
variable {g:Sp.Geom} {S S':Sp.Side} {i j:Int} {F G:File} {X Y:List Int} {r:Nat}
theorem bare_stands (h:Bm g i S (bare 1) X Y r) (hg:g.ok) (h1:1≤i) (h2:i≤g.groups*g.inodes):Stands S g i (bare 1):=by
 refine⟨hg,h.held.ok,h1,h2,h.inode_in hg h1 h2,h.file,?_,fun hm=>absurd rfl hm,fun b hb=>Or.inl (List.eq_of_mem_replicate (n:=40) hb)⟩
 have hc:=bare_fits hg 1
 unfold Sp.Inode.check at hc
 rw[if_pos hg] at hc
 by_cases hf:(bare 1).node.fits g
 ·exact hf
 ·rw[if_neg hf] at hc
  exact absurd hc (by decide)
theorem plain_stands (h:Bm g i S F X Y r) (hg:g.ok) (h1:1≤i) (h2:i≤g.groups*g.inodes) (hp:Plain1 F):Stands S g i F:=by
 obtain⟨a,b,c,d,e⟩:=hp
 exact Bm.stands h hg h1 h2 a b (by rw[c]; decide) d e
theorem texts_fr {t0 t1:List UInt8} {m:Nat} (h:q165z g S t0 t1 m) (hm:m≤12):Fr g S 0:=by
 obtain⟨F,G,Y,r,hb,h0,h1,hp,hl⟩:=h
 have hz0:=h0.size
 have hz1:=h1.size
 have hf0:=h0.few
 have hf1:=h1.few
 obtain⟨a0,b0,c0,d0⟩:=h0.alike
 obtain⟨a1,b1,c1,d1⟩:=h1.alike
 exact⟨F,G,Y,r,hb,hl,⟨a0,c0,d0,by rw[b0]; decide,by omega⟩,⟨a1,c1,d1,by rw[b1]; decide,by omega⟩,by omega⟩
theorem fr_fl {k:Nat} (h:Fr g S k):S.Fl∧S.deps.l.length≤348:=by
 match k,h with
 | 0,⟨F,G,Y,r,hb,_,_,_,hr⟩=>exact⟨hb.fl,by have:=hb.a.held.few; omega⟩
 | 1,⟨G,Y,r,hb,_,_,hr⟩=>exact⟨hb.fl,by have:=hb.a.held.few; omega⟩
 | _+2,⟨Y,r,hb,_,hr⟩=>exact⟨hb.fl,by have:=hb.a.held.few; omega⟩
theorem fr_stay (h:Fr g S 2) (hs:S.Stay S'):Fr g S' 2:=by
 obtain⟨Y,r,hb,hf,hr⟩:=h
 exact⟨Y,r,hb.stay hs,hf,hr⟩
theorem gones_disk (g:Sp.Geom) (first:Int):∀(l:List Int) (t:BSt),(BSt.gones g first l t).S.disk=t.S.disk
 | [],_=>rfl
 | b :: r,t=>by
   unfold BSt.gones
   split
   ·exact(gones_disk g first r _).trans (freeBlock_disk ..)
   ·exact gones_disk g first r t
theorem clear_disk (t:BSt) (g:Sp.Geom) (i:Int) (ahead:List Int):(t.clear g i ahead).S.disk=t.S.disk:=
 (freeInode_disk ..).trans ((gones_disk ..).trans (q80z ..))
theorem fr_clear (hg:g.ok) (h3:3≤g.inodes) {k:Nat} (hk:k<2) (h:Fr g S k):∃F,Stands S g ((2+k:Nat):Int) F∧F.kind≠0∧(⟨S,F,[]⟩:BSt).clearC g ((2+k:Nat):Int) []=0∧Fr g ((⟨S,F,[]⟩:BSt).clear g ((2+k:Nat):Int) []).S (k+1):=by
 have hgi:=in16 hg h3
 match k,hk,h with
 | 0,_,⟨F,G,Y,r,hb,hf,hF,hG,hr⟩=>
   obtain⟨c,Y',r',hr',b2,f2,_⟩:=two_clear hb hf hg (by omega) (by omega) (by decide) (by omega)
   have e:bare F.gen=bare 1:=by rw[hF.2.2.1]
   rw[e] at b2 f2
   exact⟨F,plain_stands hb.a hg (by omega) (by omega) hF,by rw[hF.1]; decide,c,G,Y',r',b2,f2,hG,by omega⟩
 | 1,_,⟨G,Y,r,hb,hf,hG,hr⟩=>
   obtain⟨c,Y',r',hr',b2,f2,_⟩:=two_clear hb.swap hf.swap hg (i:=3) (by omega) (by omega) (by decide) (by omega)
   have e:bare G.gen=bare 1:=by rw[hG.2.2.1]
   rw[e] at b2 f2
   exact⟨G,plain_stands hb.b hg (by omega) (by omega) hG,by rw[hG.1]; decide,c,Y',r',b2.swap,f2.swap,by omega⟩
 | _+2,hk,_=>omega
theorem fr_bare (hg:g.ok) (h3:3≤g.inodes) {k:Nat} (hk:k<2) (h:Fr g S (k+1)):Stands S g ((2+k:Nat):Int) (bare 1):=by
 have hgi:=in16 hg h3
 match k,hk,h with
 | 0,_,⟨G,Y,r,hb,_⟩=>exact bare_stands hb.a hg (by omega) (by omega)
 | 1,_,⟨Y,r,hb,_⟩=>exact bare_stands hb.b hg (by omega) (by omega)
 | _+2,hk,_=>omega
theorem fr_free (hg:g.ok) (h:Fr g S 2) (h0:S.deps.l=[]) {ks:List Int} (hk:∀k,k∈ks↔0≤k∧k<g.groups) (hd:ks.Nodup) (hl:(ks.length:Int)=g.groups):(rawS S).Ok∧(rawS S).freeL g ks=some (g.groups*g.inodes-1,g.groups*g.blocks):=by
 obtain⟨Y,r,hb,hf,hr⟩:=h
 have hY:Y=[]:=by
  cases Y with
  | nil=>rfl
  | cons y Y=>
    exfalso
    rcases hf y (List.mem_cons_self ..) with h | h
    ·rw[q136z] at h; exact absurd h List.not_mem_nil
    ·rw[q136z] at h; exact absurd h List.not_mem_nil
 have hh:=fr_held hb.a.held hg hk hd hl
 rw[hY] at hh
 refine⟨raw_ok hb.fl,?_⟩
 have hr2:(rawS S).read=S.read:=(raw_read hb.fl).trans (funext fun j=>(drained_read hb.fl h0 j).symm)
 have hlk:∀k b,(rawS S).look g k b=S.look g k b:=fun k b=>by
  unfold Side.look
  rw[hr2]
  rfl
 have hfl:∀ks,(rawS S).freeL g ks=S.freeL g ks:=fun ks=>by
  induction ks with
  | nil=>rfl
  | cons k r ih=>
    unfold Side.freeL
    rw[hlk,hlk,ih]
 rw[hfl,hh]
 simp
end
section
variable {w wr:World} {B Bd tb gb:Nat} {g:Sp.Geom} {S:Sp.Side} {D:Nat→Prop} {t0 t1:List UInt8}
theorem RM.clear (h:RM w B Bd tb gb g S D t0 t1 wr) (hg:g.ok) (h3:3≤g.inodes) {k:Nat} (hk:k<2) (hf:Fr g S k) :
 Calls Tryz.prog 27 #[pt B,gV g,.int .i64 ((2+k:Nat):Int),.slice none 0 0] wr fun e w'=>∃v S' D',e = .returned (.tuple #[v,.int .i64 0])∧RM w B Bd tb gb g S' D' t0 t1 w'∧Fr g S' (k+1)∧S'.disk=S.disk:=by
 obtain⟨F,q1,q2,q3,q4⟩:=fr_clear hg h3 hk hf
 have hl:S.deps.last≤900000000:=by
  match k,hf with
  | 0,⟨_,_,_,r,hb,_,_,_,hr⟩=>have:=hb.a.held.last; omega
  | 1,⟨_,_,r,hb,_,_,hr⟩=>have:=hb.a.held.last; omega
  | _+2,⟨_,r,hb,_,hr⟩=>have:=hb.a.held.last; omega
 refine(bclear_any h.tm.side h.tm.lt q1 hl q2).mono ?_
 rintro e w' (⟨-,v,rfl,-,hst⟩ | ⟨hne,-⟩)
 ·exact⟨v,_,_,rfl,h.sideTo hst,q4,clear_disk ..⟩
 ·exact absurd q3 hne
theorem RM.loadBare (h:RM w B Bd tb gb g S D t0 t1 wr) (hg:g.ok) (h3:3≤g.inodes) {k:Nat} (hk:k<2) (hf:Fr g S (k+1)) :
 Calls Tryz.prog 28 #[pt B,gV g,.int .i64 ((2+k:Nat):Int)] wr fun e w'=>e = .returned (.tuple #[.agg #[.int .i64 0,.int .i64 0,.int .i64 0,.int .i64 0,.int .i64 2,.int .i64 0,.int .i64 0,.int .i64 0,.int .i64 0,.int .i64 0,.int .i64 0,.int .i64 0,.int .i64 0,.int .i64 0],.int .i64 0])∧RM w B Bd tb gb g S D t0 t1 w':=by
 refine(bLoad_any h.tm.side (fr_bare hg h3 hk hf)).mono ?_
 rintro e w' ⟨rfl,hb⟩
 exact⟨rfl,h.below hb⟩
theorem RM.loadBareV (h:RM w B Bd tb gb g S D t0 t1 wr) (hg:g.ok) (h3:3≤g.inodes) {k:Nat} (hk:k<2) (hf:Fr g S (k+1)) :
 Calls Tryz.prog 28 #[pt B,gV g,.int .i64 ((2+k:Nat):Int)] wr fun e w'=>∃x0 x1 x2 x3 x4 x5 x6 x7 x8 x9 x10 x11 x12 x13:Int,e = .returned (.tuple #[.agg #[.int .i64 x0,.int .i64 x1,.int .i64 x2,.int .i64 x3,.int .i64 x4,.int .i64 x5,.int .i64 x6,.int .i64 x7,.int .i64 x8,.int .i64 x9,.int .i64 x10,.int .i64 x11,.int .i64 x12,.int .i64 x13],.int .i64 0])∧RM w B Bd tb gb g S D t0 t1 w'∧Hid (x0=0∧x1=0∧x2=0∧x3=0∧x4=2∧x5=0∧x6=0∧x7=0∧x8=0∧x9=0∧x10=0∧x11=0∧x12=0∧x13=0):=by
 refine(h.loadBare hg h3 hk hf).mono ?_
 rintro e w' ⟨rfl,hb⟩
 exact⟨0,0,0,0,2,0,0,0,0,0,0,0,0,0,rfl,hb,rfl,rfl,rfl,rfl,rfl,rfl,rfl,rfl,rfl,rfl,rfl,rfl,rfl,rfl⟩
theorem neq_bare2 (w:World):(binOp .neq 69 (.agg #[.int .i64 0,.int .i64 0,.int .i64 0,.int .i64 0,.int .i64 2,.int .i64 0,.int .i64 0,.int .i64 0,.int .i64 0,.int .i64 0,.int .i64 0,.int .i64 0,.int .i64 0,.int .i64 0]) (.agg #[.int .i64 0,.int .i64 0,.int .i64 0,.int .i64 0,.int .i64 2,.int .i64 0,.int .i64 0,.int .i64 0,.int .i64 0,.int .i64 0,.int .i64 0,.int .i64 0,.int .i64 0,.int .i64 0])).run Tryz.prog w = .ok (.bool false) w:=by kernel_rfl
theorem neq_bareV (w:World) {x0 x1 x2 x3 x4 x5 x6 x7 x8 x9 x10 x11 x12 x13:Int} (h:x0=0∧x1=0∧x2=0∧x3=0∧x4=2∧x5=0∧x6=0∧x7=0∧x8=0∧x9=0∧x10=0∧x11=0∧x12=0∧x13=0):(binOp .neq 69 (.agg #[.int .i64 x0,.int .i64 x1,.int .i64 x2,.int .i64 x3,.int .i64 x4,.int .i64 x5,.int .i64 x6,.int .i64 x7,.int .i64 x8,.int .i64 x9,.int .i64 x10,.int .i64 x11,.int .i64 x12,.int .i64 x13]) (.agg #[.int .i64 0,.int .i64 0,.int .i64 0,.int .i64 0,.int .i64 2,.int .i64 0,.int .i64 0,.int .i64 0,.int .i64 0,.int .i64 0,.int .i64 0,.int .i64 0,.int .i64 0,.int .i64 0])).run Tryz.prog w = .ok (.bool false) w:=by
 obtain⟨rfl,rfl,rfl,rfl,rfl,rfl,rfl,rfl,rfl,rfl,rfl,rfl,rfl,rfl⟩:=h
 exact neq_bare2 w
theorem RM.clearNo (h:RM w B Bd tb gb g S D t0 t1 wr) (hg:g.ok) (h3:3≤g.inodes) {k:Nat} (hk:k<2) (hf:Fr g S (k+1)) :
 Calls Tryz.prog 27 #[pt B,gV g,.int .i64 ((2+k:Nat):Int),.slice none 0 0] wr fun e w'=>e = .returned (.tuple #[.slice none 0 0,.int .i64 120])∧RM w B Bd tb gb g S D t0 t1 w':=by
 refine(bclearNo_any h.tm.side h.tm.lt (fr_bare hg h3 hk hf) rfl).mono ?_
 rintro e w' ⟨rfl,hb⟩
 exact⟨rfl,h.below hb⟩
theorem RM.drainedF (h:RM w B Bd tb gb g S D t0 t1 wr) (hf:Fr g S 2) (hl:S.disk.last≤900000000) :
 Calls Tryz.prog 26 #[pt Bd,pt B] wr fun e w'=>e = .returned (.bool true)∧∃S',RM w B Bd tb gb g S' D t0 t1 w'∧Fr g S' 2∧S'.deps.l=[]:=by
 obtain⟨hfl,hfew⟩:=fr_fl hf
 refine(h.drained hfl (by omega) hl).mono ?_
 rintro e w' ⟨rfl,S',h2,h4,h5,h6⟩
 exact⟨rfl,S',h2,fr_stay hf h4,h5⟩
theorem RM.freeAll (h:RM w B Bd tb gb g (rawS S) D t0 t1 wr) (hg:g.ok) {n:Nat} (hn:g.groups=(n:Int)) (hn1:n≤1000) (hf:Fr g S 2) (h0:S.deps.l=[]) {v:Value} (hv:Ints wr v (grpL n)) :
 Calls Tryz.prog 30 #[pt B,gV g,v] wr fun e w'=>e = .returned (.tuple #[.int .i64 (g.groups*g.inodes-1),.int .i64 (g.groups*g.blocks),.int .i64 0])∧Below wr.heap.size wr w':=by
 have hm:∀k,k∈grpL n↔0≤k∧k<g.groups:=fun k=>by
  rw[hn]
  constructor
  ·exact grpL_mem
  ·rintro⟨a,b⟩
   exact List.mem_map.2 ⟨k.toNat,List.mem_range.2 (by omega),by omega⟩
 have hd:(grpL n).Nodup:=by
  unfold grpL List.Nodup
  rw[List.pairwise_map]
  exact(List.nodup_range:(List.range n).Nodup).imp (fun h e=>h (by omega))
 obtain⟨r1,r2⟩:=fr_free hg hf h0 hm hd (by rw[grpL_length,hn])
 exact afree_any h.tm.side r1 hg v _ hv (fun k hk=>(hm k).1 hk) r2 (by rw[grpL_length]; omega)
end
end Go.Proofs.YtgofmnhfajmbfaaGreatDoor
