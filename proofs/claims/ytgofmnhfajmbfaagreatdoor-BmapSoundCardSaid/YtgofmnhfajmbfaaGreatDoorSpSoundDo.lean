/-
 Layer 16 as plain data: Write and Cut of one of two files,as the program does them: what the disk itself may have. No program in this text.
-/
import Derived.Test.YtgofmnhfajmbfaaGreatDoorSpSoundName
namespace Go.Proofs.YtgofmnhfajmbfaaGreatDoor.Sp
open Go Txt
theorem q125z {a b:Int} (h:thenC a b=0):a=0∧b=0:=by
 unfold thenC at h
 split at h
 ·exact⟨by assumption,h⟩
 ·exact absurd h (by assumption)
section
variable {g:Geom} {i j:Int} {F G:File} {V0:Int→ByteArray} {X Y:List Int} {r:Nat} {S:Side} {t:BSt} {first:Int}
theorem block_form (h:Bm g i S F X Y r) (hg:g.ok) (hr:r<1024) {ks:List Int} (hk:∀k∈ks,0≤k∧k<g.groups) (hC:(S.block g ks).2.2.2=0) :
 ∃k p,InG g k p∧q2z g k p∉Y∧S.changeC (q3z g k true) p oneB []=0∧S.block g ks=(S.change (q3z g k true) p oneB [],q2z g k p,(S.deps.last:Int)+1,0):=by
 have hr2:S.deps.l.length<1024:=by have:=h.held.few; omega
 have ht:S.take g true ks=S.takeL g true ks:=if_pos (wrongC_zero hg hk)
 rcases takeL_cases h.held.tb (q48z hg) hg h.held.ok hr2 ks hk with ⟨k,hkk,p,hp,hx,S',h1,h2,h3,s,h4⟩ | ⟨h1,h2⟩
 ·subst h2
  refine⟨k,p,⟨hk k hkk,hp⟩,hx,h3,?_⟩
  unfold Side.block
  rw[ht,h1]
  exact if_pos rfl
 ·exfalso
  have:S.block g ks=(S,0,0,109):=by
   unfold Side.block
   rw[ht,h1]
   exact if_neg (fun h=>absurd (show(109:Int)=0 from h) (by decide))
  rw[this] at hC
  have hC:(109:Int)=0:=hC
  exact absurd hC (by decide)
theorem free_form (h:Bm g i S F X Y r) (hg:g.ok) (hr:r<1024) {k:Int} {q:Nat} (hin:InG g k q) (hb:q2z g k q∈Y) {ahead:List Int} (ha:∀n∈ahead,1≤n∧n≤(S.deps.last:Int)) :
 S.changeC (q3z g k true) q zeroB ahead=0∧S.freeBlock g (q2z g k q) ahead=(S.change (q3z g k true) q zeroB ahead,(S.deps.last:Int)+1,0):=by
 have hp:0≤(q:Int)∧(q:Int)<g.blocks:=⟨by omega,hin.2⟩
 obtain⟨hb0,hb1,hkd⟩:=q67z hg hin.1 hp
 have hc:q43z g (q2z g k q)=0:=by
  unfold q43z
  rw[if_pos hg,if_neg (by omega),hkd,if_pos rfl]
 have e1:(k*g.blocks+(q:Int)) / g.blocks=k:=by rw[Int.add_comm,Int.add_mul_ediv_right _ _ (by omega),Int.ediv_eq_zero_of_lt hp.1 hp.2]; omega
 have e2:(k*g.blocks+(q:Int)) % g.blocks=q:=by rw[Int.add_comm,Int.add_mul_emod_self_right,Int.emod_eq_of_lt hp.1 hp.2]
 obtain⟨s,hs,hbits⟩:=h.held.tb.look k hin.1.1 hin.1.2
 have hbit:=hbits q hp.2
 rw[if_pos hb] at hbit
 have hls:=q70z hs
 have hm:=q42z hls.2.2
 have h3:S.changeC (q3z g k true) q zeroB ahead=0:=q93z h.held.ok hls.1 (by unfold inside; show 0≤(q:Int)∧0<((1:Nat):Int)∧((1:Nat):Int)≤64∧(q:Int)≤64-((1:Nat):Int); have:(q:Int)<manyG g true:=hp.2; omega) ha (by have:=h.held.few; omega)
 have hl:=Side.change_last h3
 refine⟨h3,?_⟩
 unfold Side.freeBlock
 rw[if_pos hc,hkd]
 dsimp only
 rw[e1,e2]
 unfold Side.give
 rw[hs]
 dsimp only
 rw[if_pos ⟨hp.1,hp.2,hbit⟩,h3,hl.2]
theorem fresh_form (h:Bm2 g i j t.S t.F G X Y r) (hg:g.ok) (hr:r+1<1024) {ks:List Int} (hk:∀k∈ks,0≤k∧k<g.groups) {x:ByteArray} (hx:x.size=64) (hC:t.freshC g ks x=0) :
 ∃k p S1,InG g k p∧q2z g k p∉Y∧t.S.changeC (q3z g k true) p oneB []=0∧t.S.change (q3z g k true) p oneB []=S1∧S1.changeC (q2z g k p) 0 x [(t.S.deps.last:Int)+1]=0∧S1.change (q2z g k p) 0 x [(t.S.deps.last:Int)+1]=(t.fresh g ks x).S∧S1.Fl∧(t.fresh g ks x).S.Fl∧(t.fresh g ks x).S.read (q2z g k p)=x ∧
  t.newN g ks=q2z g k p∧t.newA g ks x=[(t.S.deps.last:Int)+1,(t.S.deps.last:Int)+2]:=by
 rcases two_fresh h hg hr hk hx with e | ⟨_,N,n1,n0,eN,eA,b2,_,_,rd,_,_⟩
 ·rw[e] at hC
  exact absurd hC (by decide)
 ·have hC2:=hC
  unfold BSt.freshC at hC2
  obtain⟨c1,c2⟩:=q125z hC2
  obtain⟨k,p,hin,hY,hc1,e1⟩:=block_form h.a hg (by omega) hk c1
  have hfl1:(t.S.change (q3z g k true) p oneB []).Fl:=by
   have:=block_fl hg h.fl (by have:=h.a.held.last; omega) (ks:=ks) (fun k hk'=>(hk k hk').1)
   rw[e1] at this
   exact this
  have eNN:t.newN g ks=q2z g k p:=by unfold BSt.newN; rw[e1]
  have eT:(t.took g ks).S=t.S.change (q3z g k true) p oneB []:=by unfold BSt.took; rw[e1]
  rw[eT,eNN,e1] at c2
  have eS:(t.fresh g ks x).S=(t.S.change (q3z g k true) p oneB []).change (q2z g k p) 0 x [(t.S.deps.last:Int)+1]:=by
   show(t.took g ks).S.change (t.newN g ks) 0 x [(t.S.block g ks).2.2.1]=_
   rw[eT,eNN,e1]
  have hNN:N=q2z g k p:=eN.symm.trans eNN
  exact⟨k,p,_,hin,hY,hc1,rfl,c2,eS.symm,hfl1,b2.fl,by rw[←hNN]; exact rd,eNN,eA⟩
theorem ck_named (h:Bm2 g i j t.S t.F G X Y r) (hg:g.ok) (hr:r+4<1024) {ks:List Int} (hk:∀k∈ks,0≤k∧k<g.groups) {q off:Nat} (hq:q<40) (hmo:8≤q→t.F.more≠0) (h0:t.F.blocks.getD q 0=0) {x:ByteArray} (hx:off+x.size≤64) (hC:t.namedC g i ks q off x=0) (ck:t.S.KeptR (q25z g i j t.F G V0)) :
 (t.named g i ks q off x).S.KeptR (q25z g i j (t.named g i ks q off x).F G V0):=by
 unfold BSt.namedC at hC
 obtain⟨c1,c2⟩:=q125z hC
 obtain⟨k,p,S1,hin,hY,hc1,hS1,hc2,hS2,f1,f2,rd,eN,eA⟩:=fresh_form h hg (by omega) hk (q95z hx) c1
 rw[eN,eA] at c2
 have eS:(t.named g i ks q off x).S=(t.fresh g ks (allB off x)).S.change (q7z g i t.F q) (q9z q) (putB 2 (q2z g k p)) [(t.S.deps.last:Int)+1,(t.S.deps.last:Int)+2]:=by
  unfold BSt.named
  rw[eN,eA]
  rfl
 have eF:(t.named g i ks q off x).F = { t.F with blocks:=t.F.blocks.set q (q2z g k p) }:=by
  unfold BSt.named
  rw[eN]
  rfl
 rw[eS,eF]
 exact crash_name h hg hin hY (q95z hx) hc1 hS1 hc2 hS2 f1 f2 rd hq hmo h0 c2 ck
theorem ck_listed (h:Bm2 g i j t.S t.F G X Y r) (hg:g.ok) (hr:r+4<1024) {ks:List Int} (hk:∀k∈ks,0≤k∧k<g.groups) (q:Nat) (hC:t.listedC g i ks q=0) (ck:t.S.KeptR (q25z g i j t.F G V0)) :
 (t.listed g i ks q).S.KeptR (q25z g i j (t.listed g i ks q).F G V0):=by
 by_cases hq:8≤q∧t.F.more=0
 ·unfold BSt.listedC at hC
  rw[if_pos hq] at hC
  obtain⟨c1,c2⟩:=q125z hC
  obtain⟨k,p,S1,hin,hY,hc1,hS1,hc2,hS2,f1,f2,rd,eN,eA⟩:=fresh_form h hg (by omega) hk (x:=blank) (by unfold blank; rw[Lib.size_eq,q8z,zeros_length]) c1
  rw[eN,eA] at c2
  have eS:(t.listed g i ks q).S=(t.fresh g ks blank).S.change (q1z g i) 24 (putB 2 (q2z g k p)) [(t.S.deps.last:Int)+1,(t.S.deps.last:Int)+2]:=by
   unfold BSt.listed
   rw[if_pos hq,eN,eA]
   rfl
  have eF:(t.listed g i ks q).F = { t.F with more:=q2z g k p }:=by
   unfold BSt.listed
   rw[if_pos hq,eN]
   rfl
  rw[eS,eF]
  exact crash_list h hg hin hY rfl hc1 hS1 hc2 hS2 f1 f2 rd hq.2 c2 ck
 ·have et:t.listed g i ks q=t:=if_neg hq
  rw[et]
  exact ck
theorem ck_put (h:Bm2 g i j t.S t.F G X Y r) (hm:q15z t) (hg:g.ok) (h1:1≤i) (h2:i≤g.groups*g.inodes) (hr:r+8<1024) {ks:List Int} (hk:∀k∈ks,0≤k∧k<g.groups) {q off:Nat} (hq:q<40) {x:ByteArray} (hx:off+x.size≤64) (hx1:1≤x.size) (hC:t.putC g i ks q off x=0) (ck:t.S.KeptR (q25z g i j t.F G V0)) :
 (t.put g i ks q off x).S.KeptR (q25z g i j (t.put g i ks q off x).F G V0):=by
 by_cases h0:t.F.blocks.getD q 0≠0
 ·have et:t.put g i ks q off x=t.chg (t.F.blocks.getD q 0) off x []:=if_pos h0
  have eC:t.putC g i ks q off x=t.S.changeC (t.F.blocks.getD q 0) off x []:=if_pos h0
  rw[eC] at hC
  have hmem:t.F.blocks.getD q 0∈t.F.blocks:=q158z h0
  obtain⟨k,p,hin,e⟩:=h.a.ing (h.a.own _ (q6z.2 ⟨Or.inr hmem,h0⟩))
  rw[et]
  show(t.S.change (t.F.blocks.getD q 0) off x []).KeptR (q25z g i j t.F G V0)
  rw[e] at hC hmem ⊢
  exact crash_data h hg hin hmem (by omega) (by omega) (by omega) hC ck
 ·have h00:t.F.blocks.getD q 0=0:=Classical.byContradiction h0
  have et:t.put g i ks q off x=(t.listed g i ks q).named g i ks q off x:=if_neg h0
  have eC:t.putC g i ks q off x=thenC (t.listedC g i ks q) ((t.listed g i ks q).namedC g i ks q off x):=if_neg h0
  rw[eC] at hC
  obtain⟨c1,c2⟩:=q125z hC
  rcases two_list h hm hg h1 h2 (by omega) hk q with e | ⟨_,Y1,r1,hr1,b1,m1,_,_,bl1,mo1,_,_,_⟩
  ·rw[e] at c1
   exact absurd c1 (by decide)
  ·rw[et]
   exact ck_named b1 hg (by omega) hk hq mo1 (by rw[bl1]; exact h00) hx c2 (ck_listed h hg (by omega) hk q c1 ck)
theorem ck_puts (hg:g.ok) (h1:1≤i) (h2:i≤g.groups*g.inodes) {ks:List Int} (hk:∀k∈ks,0≤k∧k<g.groups) :
 ∀(f:Nat) (t:BSt) (Y:List Int) (r:Nat) (at_:Nat) (d:List UInt8),Bm2 g i j t.S t.F G X Y r→q15z t→r+6*f+2<1024→at_+d.length≤2560→BSt.putsC g i ks f t at_ d=0→t.S.KeptR (q25z g i j t.F G V0) →
 (BSt.puts g i ks f t at_ d).S.KeptR (q25z g i j (BSt.puts g i ks f t at_ d).F G V0)
 | 0,_,_,_,_,_,_,_,_,_,_,ck=>ck
 | f+1,t,Y,r,at_,d,h,hm,hr,hat,hC,ck=>by
   unfold BSt.puts
   unfold BSt.putsC at hC
   by_cases hd0:d=[]
   ·rw[if_pos hd0]
    exact ck
   ·rw[if_neg hd0] at hC ⊢
    obtain⟨c1,c2⟩:=q125z hC
    have hpos:0<d.length:=List.length_pos_iff.2 hd0
    have hmod:=Nat.mod_lt at_ (show 0<64 by decide)
    have hx:(ofL (d.take (64-at_ % 64))).size=min d.length (64-at_ % 64):=by rw[Lib.size_eq,q8z,List.length_take,Nat.min_comm]
    have hq:at_ / 64<40:=by omega
    have hdl:(d.drop (64-at_ % 64)).length=d.length-(64-at_ % 64):=List.length_drop
    have hck:=ck_put h hm hg h1 h2 (by omega) hk hq (off:=at_ % 64) (x:=ofL (d.take (64-at_ % 64))) (by rw[hx]; omega) (by rw[hx]; omega) c1 ck
    rcases two_put h hm hg h1 h2 (by omega) hk hq (off:=at_ % 64) (x:=ofL (d.take (64-at_ % 64))) (by rw[hx]; omega) (by rw[hx]; omega) with e | ⟨_,Y1,r1,e1,b1,m1,_⟩
    ·rw[e] at c1
     exact absurd c1 (by decide)
    ·exact ck_puts hg h1 h2 hk f _ Y1 r1 _ _ b1 m1 (by omega) (by rw[hdl]; omega) c2 hck
theorem ck_write (h:Bm2 g i j t.S t.F G X Y r) (hm:q15z t) (hg:g.ok) (h1:1≤i) (h2:i≤g.groups*g.inodes) {ks:List Int} (hk:∀k∈ks,0≤k∧k<g.groups) {f off:Nat} {d:List UInt8}
 (hr:r+6*f+2<1024) (hat:off+d.length≤2560) (hf:d=[]∨off % 64+d.length≤64*f) (hC:t.writeC g i ks f off d=0) (ck:t.S.KeptR (q25z g i j t.F G V0)) :
 (t.write g i ks f off d).S.KeptR (q25z g i j (t.write g i ks f off d).F G V0):=by
 unfold BSt.writeC at hC
 obtain⟨c1,c2⟩:=q125z hC
 have ck1:=ck_puts hg h1 h2 hk f t Y r off d h hm hr hat c1 ck
 unfold BSt.write
 rcases two_puts hg h1 h2 hk f t Y r off d h hm hr hat hf with e | ⟨_,Y1,r1,e1,b1,_⟩
 ·rw[e] at c1
  exact absurd c1 (by decide)
 ·by_cases hz:t.F.size<((off+d.length:Nat):Int)
  ·rw[if_pos hz] at c2 ⊢
   exact crash_sized b1 hg (by omega) c2 ck1
  ·rw[if_neg hz]
   exact ck1
theorem ck_wipe (h:Bm2 g i j t.S t.F G X Y r) (hg:g.ok) (h1:1≤i) (h2:i≤g.groups*g.inodes) (hr:r+2<1024) (hf:1≤first∧first≤(t.S.deps.last:Int)) {q:Nat} (hq:q<40) (ck:t.S.KeptR (q25z g i j t.F G V0)) :
 (t.wipe g i first q).S.KeptR (q25z g i j (t.wipe g i first q).F G V0):=by
 by_cases h0:t.F.blocks.getD q 0≠0
 ·have hq2:q<t.F.blocks.length:=by rw[h.a.file.len]; exact hq
  have hmem:t.F.blocks.getD q 0∈t.F.all:=q6z.2 ⟨Or.inr (q158z h0),h0⟩
  have hY:=h.a.own _ hmem
  obtain⟨k,p,hin,e⟩:=h.a.ing hY
  have hmo:8≤q→t.F.more≠0:=fun h8 em=>h0 (by
   have hz:=h.a.file.none em
   have e3:t.F.blocks[q]? = (t.F.blocks.drop 8)[q-8]?:=by rw[List.getElem?_drop,show 8+(q-8)=q by omega]
   rw[List.getD_eq_getElem?_getD,e3,hz,List.getElem?_replicate]
   split <;> rfl)
  have hp:=h.a.point hg h1 h2 (by omega) hq (b:=0) (Or.inl rfl) hmo (ahead:=[first]) (fun n hn=>by rw[List.mem_singleton] at hn; omega)
  have hl:=Side.change_last hp.1
  have hto:=h.touch hg h1 (by omega) (point_in g i t.F hmo) hp.1 hp.2.1 (fun x hx=>by
   rcases q180z hx with hx | rfl
   ·exact h.dis x hx
   ·exact fun hz=>(q6z.1 hx).2 rfl)
  rw[e] at hY
  obtain⟨hc2,e2⟩:=free_form hto.1.a hg (by omega) hin hY (ahead:=[(t.S.deps.last:Int)+1]) (fun n hn=>by rw[List.mem_singleton] at hn; rw[hl.1]; omega)
  have et:(t.wipe g i first q).S=(t.S.change (q7z g i t.F q) (q9z q) (putB 2 0) [first]).change (q3z g k true) p zeroB [(t.S.deps.last:Int)+1]∧(t.wipe g i first q).F = { t.F with blocks:=t.F.blocks.set q 0 }:=by
   unfold BSt.wipe
   rw[if_pos h0]
   unfold BSt.gone
   rw[hl.2,e]
   refine⟨?_,rfl⟩
   show((t.S.change (q7z g i t.F q) (q9z q) (putB 2 0) [first]).freeBlock g (q2z g k p) [(t.S.deps.last:Int)+1]).1=_
   rw[e2]
  rw[et.1,et.2]
  exact crash_wipe h hg hin hq hmo e hp.1 rfl hto.1.fl hc2 ck
 ·have et:t.wipe g i first q=t:=if_neg h0
  rw[et]
  exact ck
theorem ck_wipes (hg:g.ok) (h1:1≤i) (h2:i≤g.groups*g.inodes):∀(n q:Nat) (t:BSt) (Y:List Int) (r:Nat),q+n≤40→Bm2 g i j t.S t.F G X Y r→q15z t→r+2*n<1024→(1≤first∧first≤(t.S.deps.last:Int))→t.S.KeptR (q25z g i j t.F G V0) →
 (BSt.wipes g i first (List.range' q n) t).S.KeptR (q25z g i j (BSt.wipes g i first (List.range' q n) t).F G V0)
 | 0,_,_,_,_,_,_,_,_,_,ck=>ck
 | n+1,q,t,Y,r,hq,h,hm,hr,hf,ck=>by
   obtain⟨_,Y1,r1,e1,b1,m1,_,_,_,l1,_⟩:=two_wipe h hm hg h1 h2 (by omega) hf (q:=q) (by omega)
   have ew:BSt.wipes g i first (List.range' q (n+1)) t=BSt.wipes g i first (List.range' (q+1) n) (t.wipe g i first q):=by rw[List.range'_succ]; rfl
   rw[ew]
   exact ck_wipes hg h1 h2 n (q+1) _ Y1 r1 (by omega) b1 m1 (by omega) ⟨hf.1,by omega⟩ (ck_wipe h hg h1 h2 (by omega) hf (by omega) ck)
theorem ck_unlist (h:Bm2 g i j t.S t.F G X Y r) (hg:g.ok) (h1:1≤i) (h2:i≤g.groups*g.inodes) (hr:r+2<1024) (hf:1≤first∧first≤(t.S.deps.last:Int)) (ck:t.S.KeptR (q25z g i j t.F G V0)) :
 (t.unlist g i first).S.KeptR (q25z g i j (t.unlist g i first).F G V0):=by
 by_cases h0:t.F.more≠0∧t.F.blocks.drop 8=List.replicate 32 0
 ·have hp:=h.a.setMore hg h1 h2 (by omega) (m:=0) (fun _=>h0.2) (fun e=>absurd rfl e) (ahead:=[first]) (fun n hn=>by rw[List.mem_singleton] at hn; omega)
  have hl:=Side.change_last hp.1
  have hin0:t.F.more∈t.F.all:=q6z.2 ⟨Or.inl rfl,h0.1⟩
  have hY:=h.a.own _ hin0
  obtain⟨k,p,hin,e⟩:=h.a.ing hY
  have hto:=h.touch hg h1 (by omega) (Or.inl rfl) hp.1 hp.2.1 (fun x hx=>by
   rcases all_more hx with hx | rfl
   ·exact h.dis x hx
   ·exact fun hz=>(q6z.1 hx).2 rfl)
  rw[e] at hY
  obtain⟨hc2,e2⟩:=free_form hto.1.a hg (by omega) hin hY (ahead:=[(t.S.deps.last:Int)+1]) (fun n hn=>by rw[List.mem_singleton] at hn; rw[hl.1]; omega)
  have et:(t.unlist g i first).S=(t.S.change (q1z g i) 24 (putB 2 0) [first]).change (q3z g k true) p zeroB [(t.S.deps.last:Int)+1]∧(t.unlist g i first).F = { t.F with more:=0 }:=by
   unfold BSt.unlist
   rw[if_pos h0]
   unfold BSt.gone
   rw[hl.2,e]
   refine⟨?_,rfl⟩
   show((t.S.change (q1z g i) 24 (putB 2 0) [first]).freeBlock g (q2z g k p) [(t.S.deps.last:Int)+1]).1=_
   rw[e2]
  rw[et.1,et.2]
  exact crash_unlist h hg hin e h0.2 hp.1 rfl hto.1.fl hc2 ck
 ·have et:t.unlist g i first=t:=if_neg h0
  rw[et]
  exact ck
theorem ck_rest {z:Nat} (h:Bm2 g i j t.S t.F G X Y r) (hg:g.ok) (hC:t.restC first z=0) (ck:t.S.KeptR (q25z g i j t.F G V0)):(t.rest first z).S.KeptR (q25z g i j (t.rest first z).F G V0):=by
 by_cases h0:z % 64≠0∧t.F.blocks.getD (z / 64) 0≠0
 ·have et:t.rest first z=t.chg (t.F.blocks.getD (z / 64) 0) ((z % 64:Nat):Int) (ofL (zeros (64-z % 64))) [first]:=if_pos h0
  have eC:t.restC first z=t.S.changeC (t.F.blocks.getD (z / 64) 0) ((z % 64:Nat):Int) (ofL (zeros (64-z % 64))) [first]:=if_pos h0
  rw[eC] at hC
  have hmem:t.F.blocks.getD (z / 64) 0∈t.F.blocks:=q158z h0.2
  obtain⟨k,p,hin,e⟩:=h.a.ing (h.a.own _ (q6z.2 ⟨Or.inr hmem,h0.2⟩))
  have hx:(ofL (zeros (64-z % 64))).size=64-z % 64:=by rw[Lib.size_eq,q8z,zeros_length]
  rw[et]
  show(t.S.change (t.F.blocks.getD (z / 64) 0) ((z % 64:Nat):Int) (ofL (zeros (64-z % 64))) [first]).KeptR (q25z g i j t.F G V0)
  rw[e] at hC hmem ⊢
  exact crash_data h hg hin hmem (by omega) (by rw[hx]; omega) (by rw[hx]; omega) hC ck
 ·have et:t.rest first z=t:=if_neg h0
  rw[et]
  exact ck
theorem ck_cut (h:Bm2 g i j t.S t.F G X Y r) (hm:q15z t) (hg:g.ok) (h1:1≤i) (h2:i≤g.groups*g.inodes) (hr:r+92<1024) {z:Nat} (hz:z≤2560) (ck:t.S.KeptR (q25z g i j t.F G V0)) :
 (t.cut g i z).S.KeptR (q25z g i j (t.cut g i z).F G V0):=by
 unfold BSt.cut
 by_cases e:(z:Int)=t.F.size
 ·rw[if_pos e]
  exact ck
 ·rw[if_neg e]
  obtain⟨c1,b1,m1,_,_,l1⟩:=two_sized h hm hg h1 h2 (by omega) (z:Int) (ahead:=[]) (by simp)
  have ck1:(t.sized g i z []).S.KeptR (q25z g i j (t.sized g i z []).F G V0):=crash_sized h hg (by omega) c1 ck
  by_cases hlt:(z:Int)<t.F.size
  ·rw[if_pos hlt]
   have hf:1≤(t.S.deps.last:Int)+1∧(t.S.deps.last:Int)+1≤((t.sized g i z []).S.deps.last:Int):=⟨by omega,by rw[l1]; omega⟩
   obtain⟨d1,r1,e1,b2,m2,f2,l2,_,_⟩:=two_rest b1 m1 hg h1 (by omega) hf hz
   have ck2:=ck_rest b1 hg d1 ck1
   have hup:upB z≤40:=by unfold upB; split <;> omega
   obtain⟨_,Y2,r2,e2,b3,m3,_,_,_,_,l3,_,_⟩:=two_wipes (first:=(t.S.deps.last:Int)+1) hg h1 h2 (40-upB z) (upB z) ((t.sized g i z []).rest ((t.S.deps.last:Int)+1) z) Y r1 (by omega) b2 m2 (by omega) ⟨hf.1,by omega⟩
   have ck3:=ck_wipes (first:=(t.S.deps.last:Int)+1) hg h1 h2 (40-upB z) (upB z) ((t.sized g i z []).rest ((t.S.deps.last:Int)+1) z) Y r1 (by omega) b2 m2 (by omega) ⟨hf.1,by omega⟩ ck2
   exact ck_unlist b3 hg h1 h2 (by omega) ⟨hf.1,by omega⟩ ck3
  ·rw[if_neg hlt]
   exact ck1
theorem crash_plain (h:Bm2 g i j S F G X Y r) (hF:F.kind=1∧F.links=1∧F.parent=0∧F.gen=1∧0≤F.size∧F.size≤2560) (hG:G.kind=1∧G.links=1∧G.parent=0∧G.gen=1∧0≤G.size∧G.size≤2560) (h0:S.deps.l=[]) (hr0:∀s,(∀k,s≠q3z g k true)→s≠q1z g i→s≠q1z g j→(∀k p,InG g k p→s≠q2z g k p)→S.read s=V0 s):S.KeptR (q25z g i j F G V0):=by
 refine⟨⟨fun c hc=>absurd hc (by rw[h0]; exact List.not_mem_nil),fun c hc=>absurd hc (by rw[h0]; exact List.not_mem_nil),fun c hc=>absurd hc (by rw[h0]; exact List.not_mem_nil)⟩,fun K _=>?_⟩
 have hpv:S.part K=S.read:=funext fun _=>part_view h.fl.ok (fun c hc=>absurd hc (by rw[h0]; exact List.not_mem_nil))
 have hA:∀T,S.All K T:=fun T c hc=>absurd hc (by rw[h0]; exact List.not_mem_nil)
 rw[hpv]
 have hbit:∀b∈Y,∃k p,InG g k p∧b=q2z g k p∧bitAt (S.read (q3z g k true)) p=1:=fun b hb=>by
  obtain⟨k,p,hin,e⟩:=h.a.ing hb
  obtain⟨s,hs,hbits⟩:=h.a.held.tb.look k hin.1.1 hin.1.2
  have:=hbits p hin.2
  rw[←e,if_pos hb,(q70z hs).2.1] at this
  exact⟨k,p,hin,e,this⟩
 refine⟨F,G,⟨h.a.file,hF.1,hF.2.1,hF.2.2.1,hF.2.2.2.1,hF.2.2.2.2,fun b hb=>hbit b (h.a.own b hb),fun k p hin _=>⟨fun q hq=>⟨hq,fun _=>rfl⟩,fun hm=>hm⟩⟩,⟨h.b.file,hG.1,hG.2.1,hG.2.2.1,hG.2.2.2.1,hG.2.2.2.2,fun b hb=>hbit b (h.b.own b hb),fun k p hin _=>⟨fun q hq=>⟨hq,fun _=>rfl⟩,fun hm=>hm⟩⟩,h.dis,⟨fun _ _ _ _ _ _ _ _ _ _=>hA _,fun _ _ _ _ _ _=>hA _,fun _ _ _ _ _=>hA _⟩,⟨fun _ _ _ _ _ _ _ _ _ _=>hA _,fun _ _ _ _ _ _=>hA _,fun _ _ _ _ _=>hA _⟩,fun k hk=>?_,hr0⟩
 obtain⟨s,hs,_⟩:=h.a.held.tb.look k hk.1 hk.2
 obtain⟨_,h2,h3⟩:=q70z hs
 rw[←h2]
 exact h3
end
