/-
 Walks of layer 12: Sectors.
-/
import Derived.Test.YtaphcmcimoloiaaGreatDoorIntDel
import Derived.Test.YtaphcmcimoloiaaGreatDoorSideParts
import Derived.Test.YtaphcmcimoloiaaGreatDoorSpReads
set_option maxRecDepth 20000
set_option maxHeartbeats 4000000
namespace Go.Proofs.YtaphcmcimoloiaaGreatDoor
open Go Go.RowKit Txt Sp
theorem atsOf_snoc {l:List Chg} {k:Nat} {c:Chg} (hc:l[k]? = some c):atsOf (l.take (k+1))=if c.at_∈atsOf (l.take k) then atsOf (l.take k) else atsOf (l.take k) ++ [c.at_]:=by
 rw[q30z hc]
 exact ats_snoc _ _
theorem atsOf_len (l:List Chg):∀k,(atsOf (l.take k)).length≤k
 | 0=>by rw[List.take_zero]; exact Nat.le_refl 0
 | k+1=>by
   have ih:=atsOf_len l k
   cases hc:l[k]? with
   | none=>
     rw[List.take_of_length_le (by have:=List.getElem?_eq_none_iff.1 hc; omega)] at ih ⊢
     omega
   | some c=>
     rw[atsOf_snoc hc]
     split
     ·omega
     ·rw[List.length_append,List.length_singleton]; omega
section
theorem sectClose_any {w:World} {base B bx:Nat} {d:Sp.Deps} {D:Nat→Prop} (h:DepsAt w base B d D) (ht:d.Tied) (c1:w.heap[bx]? = some (.cells #[.pointer (some ⟨B,0,none⟩)] 100 (0,0))) (x:Int) :
 Calls Tryz.prog 170 #[.int .i64 x,.pointer (some ⟨bx,0,none⟩)] w fun e w'=>e = .returned (.bool (!d.going x))∧Below w.heap.size w w':=by
 have hok:=ht.ok
 have hof:=q119z h x 2 hok.few
 have hre:=fun(W:World) (hW:Below w.heap.size w W)=>depsReady_any (h.below hW) ht x
 have hcc:=fun(W:World) (hW:Below w.heap.size w W)=>cellOf (k:=0) (q1z hW c1) rfl
 obtain⟨L,hL⟩:∃L,d.places x 2 d.l.length=L:=⟨_,rfl⟩
 obtain⟨R,hR⟩:∃L,q36z d x d.l.length=L:=⟨_,rfl⟩
 have hun:L=[]↔¬d.under x:=by rw[←hL]; exact places_under
 have hrn:R=[]↔d.ready x=[]:=by rw[←hR]; exact readyPl_nil hok x
 have hg:(!d.going x)=decide (¬L=[]∨R=[]):=by
  unfold Sp.Deps.going
  by_cases h1:L=[]
  ·by_cases h2:R=[]
   ·rw[decide_eq_false (fun hh=>hh.2 (hrn.1 h2)),decide_eq_true (Or.inr h2)]; rfl
   ·rw[decide_eq_true ⟨hun.1 h1,fun e=>h2 (hrn.2 e)⟩,decide_eq_false (fun hh=>hh.elim (fun hh=>hh h1) h2)]; rfl
  ·rw[decide_eq_false (fun hh=>h1 (hun.2 hh.1)),decide_eq_true (Or.inl h1)]; rfl
 rw[hL] at hof
 rw[hR] at hre
 rw[hg]
 obtain⟨gv,hgv⟩:∃z,decide (¬L=[]∨R=[])=z:=⟨_,rfl⟩
 have HGT:Hid (¬L=[]∨R=[]→true=gv):=fun hh=>(decide_eq_true hh).symm.trans hgv
 have HGF:Hid (¬(¬L=[]∨R=[])→false=gv):=fun hh=>(decide_eq_false hh).symm.trans hgv
 rw[hgv]
 unfold pt at hof hre
 have c0:w.cell? ⟨bx,0,none⟩=some (.pointer (some ⟨B,0,none⟩)):=hcc w (Below.refl _ _)
 have HOF:=Lib.hid hof
 have HRE:=Lib.hid hre
 have HCC:=Lib.hid hcc
 clear hof hre hcc
 clear h ht hok hun hrn hg hL hR c1 hgv
 go_enter Tryz.func170,Tryz.ntmps170
 go_wp2_with fail
 clear c0
 refine HOF.out.mono ?_
 rintro e w1 ⟨v,rfl,hv1,hb1⟩
 obtain⟨ad,n,cap,rfl,hn,-,-⟩:=RowAt.facts (OwnR.row (f:=intC) (fun _ _=>rfl) hv1)
 have HB1:=Lib.hid hb1
 by_cases h0:L=[]
 ·have hn0:n=0:=by rw[hn.out,h0]; rfl
  subst hn0
  have HR1:=Lib.hid (HRE.out w1 hb1)
  have c0:w1.cell? ⟨bx,0,none⟩=some (.pointer (some ⟨B,0,none⟩)):=HCC.out w1 hb1
  clear hv1 hb1 hn HRE HCC HOF
  go_wp2_with fail
  clear c0
  refine HR1.out.mono ?_
  rintro e w2 ⟨v,rfl,hv2,hb2⟩
  obtain⟨ad2,n2,cap2,rfl,hn2,-,-⟩:=RowAt.facts (OwnR.row (f:=intC) (fun _ _=>rfl) hv2)
  have HB2:=Lib.hid (blN HB1.out hb2)
  by_cases h2:R=[]
  ·have hn0:n2=0:=by rw[hn2.out,h2]; rfl
   subst hn0
   have HG:=Lib.hid (HGT.out (Or.inr h2))
   clear hv2 hb2 hn2 h0 h2
   go_wp2
   go_ret
   exact⟨q75z HG.out,HB2.out⟩
  ·have hn0:n2≠0:=fun e=>h2 (List.eq_nil_of_length_eq_zero (by rw[←hn2.out]; exact e))
   have q1:((n2:Int) == 0)=false:=beq_eq_false_iff_ne.2 (by omega)
   have HG:=Lib.hid (HGF.out (fun hh=>hh.elim (fun hh=>hh h0) h2))
   clear hv2 hb2 hn2 h0 h2
   go_wp2
   go_ret
   exact⟨q75z HG.out,HB2.out⟩
 ·have hn0:n≠0:=fun e=>h0 (List.eq_nil_of_length_eq_zero (by rw[←hn.out]; exact e))
  have q1:(0:Int)<(n:Int):=by omega
  have HG:=Lib.hid (HGT.out (Or.inl h0))
  clear hv1 hb1 hn HRE HCC HOF h0
  go_wp2
  go_ret
  exact⟨q75z HG.out,HB1.out⟩
/-- What the loop of Sectors finds in memory. -/
structure SecM (w:World) (B:Nat) (d:Sp.Deps) (k:Nat) (wr:World):Prop where
 bel:Below w.heap.size w wr
 box:wr.heap[w.heap.size]? = some (.cells #[.pointer (some ⟨B,0,none⟩)] 100 (0,0))
 map:IM.MapAt truV wr (w.heap.size+1) (truE (atsOf (d.l.take k)))
theorem SecM.below {w wr wr':World} {B:Nat} {d:Sp.Deps} {k:Nat} (h:SecM w B d k wr) (hb:Below wr.heap.size wr wr'):SecM w B d k wr':=
 ⟨blN h.bel hb,q1z hb h.box,h.map.old (hb.block _ h.map.lt)⟩
theorem depsSectors_any {w:World} {base B:Nat} {d:Sp.Deps} {D:Nat→Prop} (h:DepsAt w base B d D) (ht:d.Tied) (hat:∀c∈d.l,0≤c.at_∧c.at_≤1000000) :
 Calls Tryz.prog 92 #[pt B] w fun e w'=>∃v,e = .returned v∧OwnR 3 1 intC w.heap.size w' v d.sectors∧Below w.heap.size w w':=by
 obtain⟨ad,n,cap,c0,hBl,HN,hn2,HF⟩:=h.open2
 have hmm:=@run_makeMap Tryz.prog
 have HCl:Hid (∀W,Below w.heap.size w W→W.heap[w.heap.size]? = some (.cells #[.pointer (some ⟨B,0,none⟩)] 100 (0,0))→∀x,Calls Tryz.prog 170 #[.int .i64 x,.pointer (some ⟨w.heap.size,0,none⟩)] W fun e w'=>e = .returned (.bool (!d.going x))∧Below W.heap.size W w'):=
  fun W hW hx x=>sectClose_any (h.below hW) ht hx x
 have HAts:Hid ((truE (atsOf d.l)).length≤1000000∧∀x∈truE (atsOf d.l),(Lit.int .i64 x.1).wf=true):=by
  refine⟨?_,fun x hx=>?_⟩
  ·have h1:=atsOf_len d.l d.l.length
   rw[List.take_length] at h1
   have h2:=ht.ok.few
   rw[truE_length]
   omega
  ·obtain⟨i,hi,rfl⟩:=List.mem_map.1 hx
   obtain⟨c,hc,rfl⟩:=(ats_mem d.l i).1 hi
   have:=hat c hc
   show(decide (IntKind.i64.min≤c.at_) && decide (c.at_≤IntKind.i64.max))=true
   rw[Bool.and_eq_true,decide_eq_true_iff,decide_eq_true_iff]
   have e1:IntKind.i64.min = -9223372036854775808:=by decide
   have e2:IntKind.i64.max=9223372036854775807:=by decide
   omega
 have HSec:Hid (leftI (fun x=>!d.going x) (((truE (atsOf d.l)).map (·.1)).mergeSort (fun x y=>decide (x≤y)))=d.sectors):=by
  have e:(truE (atsOf d.l)).map (·.1)=atsOf d.l:=truE_keys _
  rw[e]
  unfold Sp.Deps.sectors leftI
  congr 1
  funext x
  exact Bool.not_not _
 clear h ht hat
 unfold pt
 go_enter Tryz.func92,Tryz.ntmps92
 obtain⟨W1,hW1⟩:∃W,(w.alloc (.cells #[.pointer (some ⟨B,0,none⟩)] 100)).alloc (.map #[] 0)=W:=⟨_,rfl⟩
 have hb1:Below w.heap.size w W1:=by rw[←hW1]; exact bl1 (bl2 _) _
 have hx1:W1.heap[w.heap.size]? = some (.cells #[.pointer (some ⟨B,0,none⟩)] 100 (0,0)):=by
  rw[←hW1]
  exact q1z (bl2 _) (q2z w _)
 have hm1:IM.MapAt truV W1 (w.heap.size+1) (truE []):=by
  have:=q2z (w.alloc (.cells #[.pointer (some ⟨B,0,none⟩)] 100)) (.map #[] 0)
  rw[←hW1]
  refine⟨_,?_,IM.IsMap.new⟩
  simpa using this
 have HM1:Hid (SecM w B d 0 W1):=⟨hb1,hx1,by rw[List.take_zero]; exact hm1⟩
 have x0:W1.cell? ⟨w.heap.size,0,none⟩=some (.pointer (some ⟨B,0,none⟩)):=cellOf (k:=0) hx1 rfl
 have y0:=(hb1.cell (p:=⟨B,0,none⟩) hBl).trans c0
 clear hb1 hx1 hm1
 go_wp2
 clear x0 y0 hW1
 go_loopw [13] (fun q wr=>∃k:Nat,k≤n∧q = .int .i64 (k:Int)∧Hid (SecM w B d k wr)) (fun q _=>n-(intOf q).toNat)
 case atStart=>exact⟨0,Nat.zero_le _,rfl,HM1⟩
 case round=>
  clear HM1
  obtain⟨k,hk,rfl,HM⟩:=hrel
  by_cases hlt:k<n
  ·obtain⟨b,o,c,ua,un,uc,rfl,hb,hx,-,hc⟩:=HF.out k hlt
   have hst:=atsOf_snoc hx
   obtain⟨cn,ca,co,cb,ch,cs⟩:=c
   dsimp only at hst
   have c0:=(HM.out.bel.cell (p:=⟨b,o+k*6+0,none⟩) hb).trans (hc 0 _ rfl)
   have c1:=(HM.out.bel.cell (p:=⟨b,o+k*6+1,none⟩) hb).trans (hc 1 _ rfl)
   have c2:=(HM.out.bel.cell (p:=⟨b,o+k*6+2,none⟩) hb).trans (hc 2 _ rfl)
   have c3:=(HM.out.bel.cell (p:=⟨b,o+k*6+3,none⟩) hb).trans (hc 3 _ rfl)
   have c4:=(HM.out.bel.cell (p:=⟨b,o+k*6+4,none⟩) hb).trans (hc 4 _ rfl)
   have c5:=(HM.out.bel.cell (p:=⟨b,o+k*6+5,none⟩) hb).trans (hc 5 _ rfl)
   simp only[Nat.add_zero] at c0
   obtain⟨W5,hW5⟩:∃W,wr.alloc (.cells #[.int .i64 (cn:Int),.int .i64 ca,.int .i64 co,.string cb,.slice ua un uc,.int .i64 cs] 217)=W:=⟨_,rfl⟩
   have hb5:Below wr.heap.size wr W5:=by rw[←hW5]; exact bl2 _
   have hz5:W5.heap[wr.heap.size]? = some (.cells #[.int .i64 (cn:Int),.int .i64 ca,.int .i64 co,.string cb,.slice ua un uc,.int .i64 cs] 217 (0,0)):=by rw[←hW5]; exact q2z wr _
   have hM5:=HM.out.below hb5
   have z1:W5.cell? ⟨wr.heap.size,1,none⟩=some (.int .i64 ca):=cellOf (k:=1) hz5 rfl
   obtain⟨o',hup,ho'⟩:=tru_update hM5.map ca
   rw[←hst] at ho'
   obtain⟨W7,hW7⟩:∃W,ChangeMaps.setBlock W5 (w.heap.size+1) o' = W:=⟨_,rfl⟩
   rw[hW7] at hup
   have hT7:Turn (fun j=>j=w.heap.size+1) W5 W7:=by rw[←hW7]; exact q120z
   have HM7:Hid (SecM w B d (k+1) W7):=⟨hM5.bel.trans (hT7.below (fun j e=>by omega) (by have:=hM5.bel.size; omega)),hT7.heap hM5.box (by omega),⟨o',by rw[←hW7]; exact IM.heap_setBlock_at hM5.map.lt,ho'⟩⟩
   have k1:(k:Int)<(n:Int):=by omega
   clear hb5 hz5 hM5 ho' hW7 hT7 hst hb hx hc
   go_wp2
   go_roundw
   case rel=>exact⟨k+1,by omega,by go_num,HM7⟩
   case measure=>simp[intOf]; omega
  ·have hkn:k=d.l.length:=by have:=HN.out; omega
   have k1:¬((k:Int)<(n:Int)):=by omega
   have hmap:=HM.out.map
   rw[hkn,List.take_length] at hmap
   have hso:=isorted_any hmap HAts.out.2 HAts.out.1
   have HK:=Lib.hid (fun W:World=>ikeys_any (some (w.heap.size+1)) W)
   have HSo:=Lib.hid hso
   have HB0:=Lib.hid HM.out.bel
   have HX0:=Lib.hid HM.out.box
   clear hso hmap hkn HF HAts HM
   go_wp2_with fail
   refine(HK.out _).mono ?_
   rintro e w8 ⟨rfl,rfl⟩
   go_wp2_with fail
   refine HSo.out.mono ?_
   rintro e w9 ⟨v,rfl,hv9,hb9⟩
   have hb9':Below wr.heap.size wr w9:=blN (bl2 _) hb9
   have hbw:Below w.heap.size w w9:=blN HB0.out hb9'
   have hx9:=q1z hb9' HX0.out
   have hv9:OwnR 3 1 intC (wr.heap.size+1) w9 v (((truE (atsOf d.l)).map (·.1)).mergeSort (fun x y=>decide (x≤y))):=hv9
   have hlo:∀k,v.ownBlock=some k→wr.heap.size+1≤k:=fun k hk=>(hv9.lt k hk).1
   have hwr:w.heap.size<wr.heap.size:=(Array.getElem?_eq_some_iff.1 HX0.out).1
   have hdl:=sectDelete_any (bx:=w.heap.size) (fun x=>!d.going x) hv9 (fun W hT x=>
    HCl.out W (hbw.trans (hT.below (fun k hk=>by have:=hlo k hk; omega) hbw.size)) (hT.heap hx9 (fun hk=>by have:=hlo _ hk; omega)) x)
   have HFin:Hid (∀e w2,q167z (fun x=>!d.going x) (wr.heap.size+1) v (((truE (atsOf d.l)).map (·.1)).mergeSort (fun x y=>decide (x≤y))) w9 e w2→∃v',e = .returned v'∧OwnR 3 1 intC w.heap.size w2 v' d.sectors∧Below w.heap.size w w2):=by
    rintro e w2 ⟨v',rfl,r1,r2,K,k1,k2,hT⟩
    rw[HSec.out] at r1
    exact⟨v',rfl,r1.mono (by omega),hbw.trans (hT.below (fun k hk=>by have:=hlo k (k1 k hk); omega) hbw.size)⟩
   have HDl:=Lib.hid hdl
   clear hdl hx9 hbw hb9' hb9 hv9 hlo hwr HCl HSo HK
   go_wp2_with fail
   refine HDl.out.mono ?_
   intro e w10 hp
   obtain⟨v',rfl,hv',hb'⟩:=HFin.out e w10 hp
   have HE:Hid (OwnR 3 1 intC w.heap.size w10 v' d.sectors∧Below w.heap.size w w10):=⟨hv',hb'⟩
   clear hp hv' hb' HDl HFin
   go_wp2
   go_ret
   exact⟨_,rfl,HE.out.1,HE.out.2⟩
end
theorem write_parts {S:Sp.Side} (hf:S.Fl) (i:Int):(⟨toldW S.disk i (S.deps.image i (S.disk.get i)),S.deps.send i,S.node,S.epoch,S.fly ++ [(((S.disk.last+1:Nat):Int),i)]⟩:Sp.Side)=S.write i:=by
 unfold Sp.Side.write toldW
 rw[hf.node.1,hf.node.2]
theorem image_size {d:Sp.Deps} {i:Int} {s:ByteArray} (h:d.Ok) (hs:s.size=64):(d.image i s).size=64:=by
 unfold Sp.Deps.image
 rw[Lib.size_eq,q11z,q86z _ _ hs]
 intro p hp
 obtain⟨c,hc,rfl⟩:=List.mem_map.1 hp
 exact h.fit c (List.mem_filter.1 hc).1
section
theorem softWrite_any {w:World} {base B Bc Bd fm:Nat} {S:Sp.Side} {D Dd:Nat→Prop} (h:SideP w base B Bc Bd fm S D Dd) (hD:∀j,D j→j<w.heap.size) (hf:S.Fl) (i:Int) (hi:S.disk.has i) (hn:¬S.deps.under i) (hr:S.deps.ready i≠[]) (hfew:S.fly.length<1024) (hlast:S.disk.last<1000000000) :
 Calls Tryz.prog 191 #[pt B,.int .i64 i] w fun e w'=>e = .returned (.tuple #[.int .i64 ((S.disk.last+1:Nat):Int),.int .i64 0])∧SideP w' base B Bc Bd fm (S.write i) D Dd∧q14z w D w':=by
 have hrd:=diskRead_any h.disk i
 unfold Sp.Disk.read Sp.Disk.readC at hrd
 rw[if_pos hi,if_pos hi] at hrd
 have hsz:=q130z hf hi
 have him:=fun(W:World) (hW:Below w.heap.size w W)=>depsImage_any (h.below hW).deps hf.tied i (S.disk.get i) hsz
 have hse:=fun(W:World) (hW:Below w.heap.size w W)=>depsSend_any (h.below hW).deps (fun j hj=>Nat.lt_of_lt_of_le (hD j hj) hW.size) hf.tied i hn hr
 have hiz:=image_size (i:=i) hf.tied.ok hsz
 have hwl:S.disk.waits.length=S.fly.length:=by rw[hf.waits,List.length_map]
 have hkeys:∀x∈S.disk.waits,x.1≤(S.disk.last:Int):=fun x hx=>by
  rw[hf.waits] at hx
  obtain⟨y,hy,rfl⟩:=List.mem_map.1 hx
  exact(hf.flyB y hy).1.2
 have hwp:=write_parts hf i
 obtain⟨s,hs⟩:∃s,S.deps.image i (S.disk.get i)=s:=⟨_,rfl⟩
 rw[hs] at him hiz hwp
 have HNext:Hid (∀W W',Below w.heap.size w W→∀{d:Sp.Deps},d=S.deps.send i→DepsAt W' base Bc d D→q17z W D W'→SideP W' base B Bc Bd fm { S with deps:=S.deps.send i } D Dd∧q14z w D W'∧w.heap.size≤W'.heap.size):=by
  rintro W W' hW d rfl hd hT
  exact⟨(h.below hW).chg hd hT,(q14z.of_below hW).trans hT.ownT,Nat.le_trans hW.size hT.size⟩
 have HIss:Hid (∀W,SideP W base B Bc Bd fm { S with deps:=S.deps.send i } D Dd→w.heap.size≤W.heap.size→Calls Tryz.prog 258 #[pt Bd,.int .i64 0,.int .i64 0,.int .i64 i,.string s] W fun e w'=>e = .returned (.tuple #[.int .i64 ((S.disk.last+1:Nat):Int),.int .i64 0])∧DiskAt w' 0 Bd (toldW S.disk i s) Dd∧q21z W Dd w'):=
  fun W hW hs=>diskIssue_any hW.disk (fun j hj=>Nat.lt_of_lt_of_le (hD j (hW.sub j hj)) hs) hf.fence (by rw[hwl]; exact hfew) hlast hkeys i hi s hiz
 have hno:IM.getM S.fly ((S.disk.last+1:Nat):Int)=none:=by
  unfold IM.getM
  rw[List.find?_eq_none.2 (fun x hx=>by
   rw[decide_eq_true_iff]
   have:=(hf.flyB x hx).1.2
   omega)]
  rfl
 have hsm:IM.setM S.fly ((S.disk.last+1:Nat):Int) i=S.fly ++ [(((S.disk.last+1:Nat):Int),i)]:=by
  unfold IM.setM
  rw[hno]
  rfl
 have HEnd:Hid (∀W W',SideP W base B Bc Bd fm { S with deps:=S.deps.send i } D Dd→q14z w D W→DiskAt W' 0 Bd (toldW S.disk i s) Dd→q21z W Dd W' →
  W'.cell? ⟨B,4,none⟩=some (.map (some fm))∧∃o',(Instr.mapUpdate 101 (.map (some fm)) (.int .i64 ((S.disk.last+1:Nat):Int)) (.int .i64 i)).run Tryz.prog W' = .ok () (ChangeMaps.setBlock W' fm o')∧SideP (ChangeMaps.setBlock W' fm o') base B Bc Bd fm (S.write i) D Dd∧q14z w D (ChangeMaps.setBlock W' fm o')):=by
  intro W W' hW hT hd hT2
  have h2:=hW.dsk hd hT2
  obtain⟨o',hup,ho'⟩:=IM.run_update (P:=Tryz.prog) (T:=101) Tryz.underlying101 Tryz.underlying3 h2.fly ((S.disk.last+1:Nat):Int) i
  have ho2:IM.IsMap intV o' (S.fly ++ [(((S.disk.last+1:Nat):Int),i)]):=by
   rw[←hsm]
   exact ho'
  obtain⟨h3,h4⟩:=h2.setFly ho2
  refine⟨cellOf (k:=4) h2.obj rfl,o',hup,?_,hT.trans ((hT2.ownT h.sub).trans h4)⟩
  rw[←hwp]
  exact h3
 have hcell:∀W S',SideP W base B Bc Bd fm S' D Dd→W.cell? ⟨B,0,none⟩=some (.pointer (some ⟨Bc,0,none⟩))∧W.cell? ⟨B,1,none⟩=some (.pointer (some ⟨Bd,0,none⟩))∧W.cell? ⟨B,2,none⟩=some (.int .i64 S'.node)∧W.cell? ⟨B,3,none⟩=some (.int .i64 S'.epoch):=fun W S' hW=>
  ⟨cellOf (k:=0) hW.obj rfl,cellOf (k:=1) hW.obj rfl,cellOf (k:=2) hW.obj rfl,cellOf (k:=3) hW.obj rfl⟩
 have HC0:Hid (∀W,Below w.heap.size w W→W.cell? ⟨B,0,none⟩=some (.pointer (some ⟨Bc,0,none⟩))∧W.cell? ⟨B,1,none⟩=some (.pointer (some ⟨Bd,0,none⟩))):=fun W hW=>⟨(hcell W S (h.below hW)).1,(hcell W S (h.below hW)).2.1⟩
 have HC3:Hid (∀W,SideP W base B Bc Bd fm { S with deps:=S.deps.send i } D Dd→W.cell? ⟨B,1,none⟩=some (.pointer (some ⟨Bd,0,none⟩))∧W.cell? ⟨B,2,none⟩=some (.int .i64 0)∧W.cell? ⟨B,3,none⟩=some (.int .i64 0)):=fun W hW=>by
  have:=(hcell W _ hW).2
  rw[show({ S with deps:=S.deps.send i }:Sp.Side).node=0 from hf.node.1,show({ S with deps:=S.deps.send i }:Sp.Side).epoch=0 from hf.node.2] at this
  exact this
 have HDd:Hid (∀j,Dd j→j<w.heap.size):=fun j hj=>hD j (h.sub j hj)
 obtain⟨dS,hdS⟩:∃d,S.deps.send i=d:=⟨_,rfl⟩
 rw[hdS] at hse HNext HIss HEnd HC3
 obtain⟨S1,hS1⟩:∃T,({ S with deps:=dS }:Sp.Side)=T:=⟨_,rfl⟩
 rw[hS1] at HNext HIss HEnd HC3
 obtain⟨dW,hdW⟩:∃d,toldW S.disk i s=d:=⟨_,rfl⟩
 rw[hdW] at HIss HEnd
 obtain⟨S2,hS2⟩:∃T,S.write i=T:=⟨_,rfl⟩
 rw[hS2] at HEnd ⊢
 obtain⟨N,hN⟩:∃n:Int,((S.disk.last+1:Nat):Int)=n:=⟨_,rfl⟩
 rw[hN] at HIss HEnd ⊢
 obtain⟨t,ht⟩:∃t,S.disk.get i=t:=⟨_,rfl⟩
 rw[ht] at hrd him
 unfold pt at hrd him hse HIss ⊢
 obtain⟨c0,c1⟩:=HC0.out w (Below.refl _ _)
 have HRD:=Lib.hid hrd
 have HIM:=Lib.hid him
 have HSE:=Lib.hid hse
 clear hrd him hse
 clear h hD hf hi hn hr hfew hlast hsz hiz hwl hkeys hwp hs hno hsm hcell hdS hS1 hdW hS2 hN ht
 go_enter Tryz.func191,Tryz.ntmps191
 go_wp2_with fail
 clear c0 c1
 refine HRD.out.mono ?_
 rintro e w1 ⟨rfl,hw1⟩
 replace hw1:=hw1.symm
 subst hw1
 obtain⟨c0,c1⟩:=HC0.out w (Below.refl _ _)
 go_wp2_with fail
 clear c0 c1
 refine(HIM.out w (Below.refl _ _)).mono ?_
 rintro e w2 ⟨rfl,hb2⟩
 have HB2:=Lib.hid hb2
 obtain⟨c0,c1⟩:=HC0.out w2 hb2
 clear hb2 HIM HRD
 go_wp2_with fail
 clear c0 c1
 refine(HSE.out w2 HB2.out).mono ?_
 rintro e w3 ⟨a3,n3,c3,rfl,hd3,hT3⟩
 obtain⟨hp3,ht3,hs3⟩:=HNext.out w2 w3 HB2.out rfl hd3 hT3
 have hbd:Below w3.heap.size w3 w3.drew:=blD (Below.refl _ _)
 have hiss:=(HIss.out w3.drew (hp3.below hbd) hs3).mono (fun e w' h=>(⟨h.1,h.2.1,q21z.trans (fun j hj=>Nat.lt_of_lt_of_le (HDd.out j hj) hs3) (q21z.of_below hbd) h.2.2⟩:e = .returned (.tuple #[.int .i64 N,.int .i64 0])∧DiskAt w' 0 Bd dW Dd∧q21z w3 Dd w'))
 have HI:=Lib.hid hiss
 have HFin:=Lib.hid (fun W'=>HEnd.out w3 W' hp3 ht3)
 have hS:∀W,Below w3.heap.size w3 W→W.cell? ⟨B,1,none⟩=some (.pointer (some ⟨Bd,0,none⟩))∧W.cell? ⟨B,2,none⟩=some (.int .i64 0)∧W.cell? ⟨B,3,none⟩=some (.int .i64 0):=fun W hW=>HC3.out W (hp3.below hW)
 have hSd:=hS w3.drew hbd
 clear hd3 hT3 hp3 ht3 hs3 hS hiss hbd HNext HIss HEnd HSE HC0 HC3 HDd
 go_upto_region 8 with fail
 refine q47z (fun W=>W.cell? ⟨B,1,none⟩=some (.pointer (some ⟨Bd,0,none⟩))∧W.cell? ⟨B,2,none⟩=some (.int .i64 0)∧W.cell? ⟨B,3,none⟩=some (.int .i64 0)) 14 (by kernel_rfl) (by first | trivial | assumption) (fun hHeld hX0=>?_)
 refine tkU 0 ?_; clear hX0; intro hX0; simp only[Act.put,ps0]
 refine tkU 1 ?_; clear hX0; intro hX0; simp only[Act.put,ps0]
 refine tkU 2 ?_; clear hX0; intro hX0; simp only[Act.put,ps0]
 refine tkU 3 ?_; clear hX0; intro hX0; simp only[Act.put,ps0]
 refine tkU 4 ?_; clear hX0; intro hX0; simp only[Act.put,ps0]
 refine tkU 5 ?_; clear hX0; intro hX0; simp only[Act.put,ps0]
 refine tkU 6 ?_; clear hX0; intro hX0; simp only[Act.put,ps0]
 refine tkU 7 ?_; clear hX0; intro hX0; simp only[Act.put,ps0]
 refine tkU 8 ?_; clear hX0; intro hX0; simp only[Act.put,ps0]
 refine tkU 9 ?_; clear hX0; intro hX0; simp only[Act.put,ps0]
 refine tkU 10 ?_; clear hX0; intro hX0; simp only[Act.put,ps0]
 refine tkU 11 ?_; clear hX0; intro hX0; simp only[Act.put,ps0]
 refine tkU 12 ?_; clear hX0; intro hX0; simp only[Act.put,ps0]
 refine tkU 13 ?_; clear hX0; intro hX0; simp only[Act.put,ps0]
 refine AnyU.each (is:=[14]) (by kernel_rfl) (by simp) (EachU.cons hX0 (by kernel_rfl) rfl (fun K hK=>?_) EachU.nil)
 try simp only[gg0]
 go_simp
 refine HI.out.mono ?_
 rintro e w4 ⟨rfl,hd4,hT4⟩
 try simp only
 refine hK.out _ _ (fun h=>absurd h (by decide)) (fun _ hX1=>?_)
 clear hK K hX0; have hX0:=hX1; clear hX1
 try simp only[Act.put,ps0]
 refine pkU 15 ?_; clear hX0; intro hX0; simp only[Act.put,ps0]
 refine pkU 16 ?_; clear hX0; intro hX0; simp only[Act.put,ps0]
 refine pkU 17 ?_; clear hX0; intro hX0; simp only[Act.put,ps0]
 refine pkU 18 ?_; clear hX0; intro hX0; simp only[Act.put,ps0]
 refine pkU 19 ?_; clear hX0; intro hX0; simp only[Act.put,ps0]
 refine AnyU.done (by kernel_rfl) ?_ _
 obtain⟨c4,o',hup,hp5,ht5⟩:=HFin.out w4 hd4 hT4
 have HP5:=Lib.hid hp5
 have HT5:=Lib.hid ht5
 clear hp5 ht5
 clear hSd hHeld hX0 hd4 hT4 HFin HI
 go_wp2
 go_ret2
 exact⟨rfl,HP5.out,HT5.out⟩
theorem softWriteAll_any {w:World} {base B Bc Bd fm:Nat} {S:Sp.Side} {D Dd:Nat→Prop} (h:SideP w base B Bc Bd fm S D Dd) (hD:∀j,D j→j<w.heap.size) (hf:S.Fl) (hlast:S.disk.last+1024<1000000000) :
 Calls Tryz.prog 117 #[pt B] w fun e w'=>(∃v,e = .returned v)∧SideP w' base B Bc Bd fm S.writeAll D Dd∧q14z w D w':=by
 have hsec:=depsSectors_any h.deps hf.tied (fun c hc=>by
  have h1:=(hf.at_ c hc).1
  have h2:=hf.size
  unfold Sp.Disk.has at h1
  omega)
 have hlen:=sectors_len hf
 have hat:=writes_at S.deps.sectors S hf (q78z _) hf.may_of
 have hwa:S.writeAll=S.deps.sectors.foldl Side.write S:=rfl
 rw[hwa]
 obtain⟨L,hL⟩:∃L,S.deps.sectors=L:=⟨_,rfl⟩
 rw[hL] at hsec hlen hat ⊢
 have hst:∀k i,L[k]? = some i→(L.take (k+1)).foldl Side.write S=((L.take k).foldl Side.write S).write i:=fun k i hi=>by
  rw[q30z hi,List.foldl_append]
  rfl
 have HW:Hid (∀(W:World) k i,w.heap.size≤W.heap.size→SideP W base B Bc Bd fm ((L.take k).foldl Side.write S) D Dd→L[k]? = some i→Calls Tryz.prog 191 #[pt B,.int .i64 i] W fun e w'=>∃N:Int,e = .returned (.tuple #[.int .i64 N,.int .i64 0])∧SideP w' base B Bc Bd fm ((L.take (k+1)).foldl Side.write S) D Dd∧q14z W D w'):=by
  intro W k i hs hW hi
  have hk:=(List.getElem?_eq_some_iff.1 hi).1
  obtain⟨a1,a2,a3⟩:=hat k (Nat.le_of_lt hk)
  have hm:=a2 i (by rw[List.drop_eq_getElem_cons hk,(List.getElem?_eq_some_iff.1 hi).2]; exact List.mem_cons_self ..)
  rw[hst k i hi]
  refine(softWrite_any hW (fun j hj=>Nat.lt_of_lt_of_le (hD j hj) hs) a1 i hm.1 hm.2.2.1 hm.2.2.2 (a1.fly_few hm) (by rw[a3]; omega)).mono ?_
  rintro e w' ⟨rfl,h1,h2⟩
  exact⟨_,rfl,h1,h2⟩
 have c0:=cellOf (k:=0) h.obj rfl
 have HEnd:Hid (L.take L.length=L):=List.take_length
 obtain⟨T,hT⟩:∃T:Nat→Sp.Side,(fun k=>(L.take k).foldl Side.write S)=T:=⟨_,rfl⟩
 have hTk:∀k,(L.take k).foldl Side.write S=T k:=fun k=>congrFun hT k
 have hTe:L.foldl Side.write S=T L.length:=by rw[←hTk,List.take_length]
 have hT0:S=T 0:=by rw[←hTk]; rfl
 simp only[hTk] at HW
 rw[hTe]
 have hS0:SideP w base B Bc Bd fm (T 0) D Dd:=hT0 ▸ h
 have HD:=Lib.hid hD
 unfold pt at c0 hsec HW ⊢
 have HSEC:=Lib.hid hsec
 have HS0:=Lib.hid hS0
 have HLEN:=Lib.hid hlen
 clear hsec hS0 hlen
 clear h hD hf hlast hat hwa hst hT hTk hTe hT0 hL
 go_enter Tryz.func117,Tryz.ntmps117
 go_wp2_with fail
 clear c0
 refine HSEC.out.mono ?_
 rintro e w1 ⟨v,rfl,hv1,hb1⟩
 obtain⟨ad,n,cap,rfl,HN,hn2,HF⟩:=RowAt.facts (OwnR.row (f:=intC) (fun _ _=>rfl) hv1)
 have hn1:n≤1024:=by have:=HN.out; have:=HLEN.out; omega
 have hDv:∀b o,ad=some ⟨b,o,none⟩→¬D b:=fun b o e hd=>by
  subst e
  obtain⟨_,⟨e,_⟩ | ⟨g,cp,cur,e,hg,_⟩⟩:=hv1
  ·cases e
  ·cases e
   have:=HD.out b hd
   omega
 have HDV:=Lib.hid hDv
 have HSP1:=Lib.hid (HS0.out.below hb1)
 have HBW:=Lib.hid hb1
 have hw1:w.heap.size≤w1.heap.size:=hb1.size
 clear hv1 hb1 hDv HSEC HS0
 go_wp2
 go_loopw [3,14] (fun out q wr=>∃k:Nat,k≤n∧q = .int .i64 (k:Int)∧Hid (SideP wr base B Bc Bd fm (T k) D Dd)∧Hid (q14z w1 D wr)∧∃O:List Int,Hid (O.length=k)∧Hid (OwnR 3 1 intC w1.heap.size wr out O)) (fun _ q _=>n-(intOf q).toNat)
 case atStart=>exact⟨0,Nat.zero_le _,rfl,HSP1,q14z.of_below (Below.refl _ _),[],rfl,OwnR.void _ _⟩
 case round=>
  clear HSP1
  obtain⟨k,hk,rfl,HP,HT,O,HOL,HO⟩:=hrel
  by_cases hlt:k<n
  ·obtain⟨b,o,i,rfl,hb,hx,hc⟩:=HF.out k hlt
   have hnd:=HDV.out b o rfl
   have c0:wr.cell? ⟨b,o+k,none⟩=some (.int .i64 i):=by
    obtain⟨K,k1,hT⟩:=HT.out
    have:=hc 0 _ rfl
    simp only[Nat.mul_one,Nat.add_zero] at this
    rw[←this]
    unfold World.cell?
    have hbb:b<w1.heap.size:=hb
    rw[hT.block b hbb (fun hK=>hnd (k1 b hK))]
   have hsz:=HT.out.size
   have hwr:=HW.out wr k i (Nat.le_trans hw1 hsz) HP.out hx
   have HWr:=Lib.hid hwr
   have k1:(k:Int)<(n:Int):=by omega
   clear hwr hx hc hb hnd
   go_wp2_with fail
   clear c0
   refine HWr.out.mono ?_
   rintro e w4 ⟨N,rfl,hp4,ht4⟩
   have HP4:=Lib.hid hp4
   have HT4:=Lib.hid (HT.out.trans ht4)
   have HO4:=Lib.hid (HO.out.ownT ht4 (fun j hj=>Nat.lt_of_lt_of_le (HD.out j hj) hw1))
   have hs4:w1.heap.size≤w4.heap.size:=HT4.out.size
   have HB4:Hid (Below w1.heap.size w4 w4):=Below.refl _ _
   have hll:O.length≤1024:=by have:=HOL.out; omega
   clear hp4 ht4 HWr HP HT HO
   go_upto_region 7 with fail
   obtain⟨ia7,ib7,ic7,id7,ie7⟩:=info_parts q69z
   have hrow7:=HO4.out
   unfold OwnR at hrow7
   have HRow7:=Lib.hid hrow7
   clear hrow7
   have HIb7:=Lib.hid ib7
   have HIc7:=Lib.hid ic7
   have HId7:=Lib.hid id7
   have HIe7:=Lib.hid ie7
   clear ib7 ic7 id7 ie7
   go_wp2_with (at_builtin; refine wpList_append_lies _ rfl _ _ _ rfl w1.heap.size 3 ia7 _ 1 8 Tryz.underlying48 HIb7.out HIc7.out HId7.out HIe7.out rfl (by decide) _ _ _ rfl (HRow7.out.alloc _) ⟨w4.heap.size,0,none⟩ 1 1 [.int .i64 N] rfl rfl (World.news_of_block (cs:=#[.int .i64 N]) (t:=3) (fr:=(0,0)) (q2z w4 _)) (by simp[Value.oneCell']) (by omega) ?c1 ?c2 ?c3 (w4.heap.size+1) (by simp) ?_)
   case c1=>unfold maxLen; omega
   case c2=>omega
   case c3=>have:=HB4.out.size; first | (simp; done) | (simp; omega)
   intro g7 cap7 w7 hown7 hgrow7 hat7 hlt7
   have HO7:=Lib.hid (OwnR.snoc (f:=intC) (x:=N) hown7 rfl rfl)
   have HB7:Hid (Below w1.heap.size w4 w7):=Below.grown ((bl2 (w:=w4) _).mono hs4) hgrow7 (Nat.le_trans hs4 (bl2 (w:=w4) _).size) (fun q hq=>(HRow7.out.lt q hq).1)
   clear hown7 hgrow7 hat7 hlt7 HRow7
   have HP7:=Lib.hid (HP4.out.lowB (fun j hj=>Nat.lt_of_lt_of_le (HD.out j hj) hw1) HB7.out)
   have HT7:=Lib.hid (HT4.out.lowB HB7.out)
   clear HP4 HT4 HO4 HB4 HB7
   go_wp2
   go_roundw
   case rel=>exact⟨k+1,by omega,by go_num,HP7,HT7,O ++ [N],by show(O ++ [N]).length=k+1; rw[List.length_append,HOL.out]; rfl,HO7⟩
   case measure=>simp[intOf]; omega
  ·have hkn:k=L.length:=by have:=HN.out; omega
   have hp:=HP.out
   rw[hkn] at hp
   have HE:Hid (SideP wr base B Bc Bd fm (T L.length) D Dd∧q14z w D wr):=⟨hp,(q14z.of_below HBW.out).trans HT.out⟩
   have k1:¬((k:Int)<(n:Int)):=by omega
   clear hp HW
   go_wp2
   go_ret
   exact⟨⟨_,rfl⟩,HE.out.1,HE.out.2⟩
end
end Go.Proofs.YtaphcmcimoloiaaGreatDoor
