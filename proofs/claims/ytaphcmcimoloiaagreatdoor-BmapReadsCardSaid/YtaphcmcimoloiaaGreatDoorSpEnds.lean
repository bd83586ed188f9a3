/-
 Layer 13 as plain data: WriteAll,sector by sector. No program in this text.
-/
import Derived.Test.YtaphcmcimoloiaaGreatDoorSpJ
namespace Go.Proofs.YtaphcmcimoloiaaGreatDoor.Sp
open Go Txt
def Side.may (S:Side) (i:Int):Prop:=S.disk.has i∧(∃c∈S.deps.l,c.at_=i)∧¬S.deps.under i∧S.deps.ready i≠[]
theorem ats_of_send (d:Deps) (i j:Int):(∃c∈(d.send i).l,c.at_=j)↔∃c∈d.l,c.at_=j:=by
 unfold Deps.send
 constructor
 ·rintro ⟨c,hc,rfl⟩
  obtain ⟨b,hb,rfl⟩:=List.mem_map.1 hc
  exact ⟨b,hb,(isR_fields b).1.symm⟩
 ·rintro ⟨c,hc,rfl⟩
  exact ⟨_,List.mem_map.2 ⟨c,hc,rfl⟩,(isR_fields c).1⟩
theorem Side.may.write {S:Side} (h:S.Fl) {i j:Int} (hj:j≠i) (hm:S.may j):(S.write i).may j:=by
 obtain ⟨h1,h2,h3,h4⟩:=hm
 refine ⟨h1,(ats_of_send S.deps i j).2 h2,fun hu=>h3 ((under_send h.tied.ok hj).1 hu),?_⟩
 show (S.deps.send i).ready j≠[]
 rw [ready_send h.tied.ok hj]
 exact h4
theorem Side.Fl.fly_few {S:Side} (h:S.Fl) {i:Int} (hm:S.may i):S.fly.length<1024:=by
 have hni:i∉S.fly.map Prod.snd:=fun hi=>by
  obtain ⟨x,hx,e⟩:=List.mem_map.1 hi
  have:=(h.flyB x hx).2
  rw [e] at this
  exact hm.2.2.1 this
 have h1:(i :: S.fly.map Prod.snd).Nodup:=List.nodup_cons.2 ⟨hni,h.flyI⟩
 have h2:(i :: S.fly.map Prod.snd) ⊆ S.deps.l.map Chg.at_:=fun j hj=>by
  rcases List.mem_cons.1 hj with rfl | hj
  ·obtain ⟨c,hc,e⟩:=hm.2.1
   exact List.mem_map.2 ⟨c,hc,e⟩
  ·obtain ⟨x,hx,rfl⟩:=List.mem_map.1 hj
   obtain ⟨c,hc,e,_⟩:=(h.flyB x hx).2
   exact List.mem_map.2 ⟨c,hc,e⟩
 have h3:=h1.length_le_of_subset h2
 rw [List.length_cons,List.length_map,List.length_map] at h3
 have:=h.tied.ok.few
 omega
theorem writes_at:∀(l:List Int) (S:Side),S.Fl→l.Nodup→(∀i∈l,S.may i)→∀k,k≤l.length →
 let T:=(l.take k).foldl Side.write S
 T.Fl∧(∀i∈l.drop k,T.may i)∧T.disk.last=S.disk.last+k
 | l,S,hf,_,hm,0,_=>by
   rw [List.take_zero,List.drop_zero]
   exact ⟨hf,hm,rfl⟩
 | [],S,hf,_,hm,k+1,hk=>absurd hk (by simp)
 | i :: r,S,hf,hn,hm,k+1,hk=>by
   obtain ⟨hi,hr⟩:=List.nodup_cons.1 hn
   obtain ⟨m1,m2,m3,m4⟩:=hm i (List.mem_cons_self ..)
   have hf2:=hf.write m1 m3 m4
   have ih:=writes_at r (S.write i) hf2 hr (fun j hj=>(hm j (List.mem_cons_of_mem _ hj)).write hf (fun e=>hi (e ▸ hj))) k (by rw [List.length_cons] at hk; omega)
   rw [List.take_succ_cons,List.drop_succ_cons]
   refine ⟨ih.1,ih.2.1,?_⟩
   have h3:=ih.2.2
   rw [show (S.write i).disk.last=S.disk.last+1 from rfl] at h3
   show ((r.take k).foldl Side.write (S.write i)).disk.last=_
   rw [h3]
   omega
theorem Side.Fl.may_of {S:Side} (h:S.Fl):∀i∈S.deps.sectors,S.may i:=fun i hi=>
 ⟨(h.sectors i hi).1,(sectors_mem.1 hi).1,(h.sectors i hi).2.1,(h.sectors i hi).2.2⟩
theorem sectors_len {S:Side} (h:S.Fl):S.deps.sectors.length≤1024:=by
 have h1:=(sectors_nodup S.deps).length_le_of_subset (l₂:=S.deps.l.map Chg.at_) (fun i hi=>by
  obtain ⟨c,hc,e⟩:=(sectors_mem.1 hi).1
  exact List.mem_map.2 ⟨c,hc,e⟩)
 rw [List.length_map] at h1
 have:=h.tied.ok.few
 omega
end Go.Proofs.YtaphcmcimoloiaaGreatDoor.Sp
namespace Go.Proofs.YtaphcmcimoloiaaGreatDoor.Sp
open Go Txt
theorem ends_snoc (pick:Nat→Int):∀(l:List Int) (S:Side) (j:Nat) (n:Int),Side.ends pick S j (l ++ [n])=(Side.ends pick S j l).endK (pick (j+l.length)) n
 | [],S,j,n=>rfl
 | m :: r,S,j,n=>by
   show Side.ends pick (S.endK (pick j) m) (j+1) (r ++ [n])=_
   rw [ends_snoc pick r]
   show (Side.ends pick (S.endK (pick j) m) (j+1) r).endK _ n=(Side.ends pick (S.endK (pick j) m) (j+1) r).endK _ n
   congr 2
   rw [List.length_cons]
   omega
theorem endK_last (S:Side) (k n:Int):(S.endK k n).disk.last=S.disk.last:=by
 unfold Side.endK
 split
 ·split
  ·rfl
  ·split <;> rfl
 ·rfl
theorem ends_at (pick:Nat→Int) {S:Side} (h:S.Fl) {l:List Int} (hn:l.Nodup) (hl:∀n∈l,∃i,(n,i)∈S.fly):∀k,k≤l.length →
 (Side.ends pick S 0 (l.take k)).Fl∧(∀n∈l.drop k,∃i,(n,i)∈(Side.ends pick S 0 (l.take k)).fly)∧(Side.ends pick S 0 (l.take k)).disk.last=S.disk.last
 | 0,_=>by
   rw [List.take_zero,List.drop_zero]
   exact ⟨h,hl,rfl⟩
 | k+1,hk=>by
   obtain ⟨h1,h2,h3⟩:=ends_at pick h hn hl k (by omega)
   have hk':k<l.length:=hk
   rw [List.take_add_one,List.getElem?_eq_getElem hk',Option.toList_some,ends_snoc]
   have hd:l.drop k=l[k] :: l.drop (k+1):=List.drop_eq_getElem_cons hk'
   have hnd:(l.drop k).Nodup:=hn.sublist (List.drop_sublist k l)
   rw [hd] at hnd h2
   obtain ⟨q1,q2⟩:=List.nodup_cons.1 hnd
   refine ⟨(endK_stay h1 _ _).fl,fun n hm=>?_,by rw [endK_last,h3]⟩
   obtain ⟨i,hi⟩:=h2 n (List.mem_cons_of_mem _ hm)
   exact ⟨i,endK_fly _ _ hi (fun e=>q1 (e ▸ hm))⟩
theorem unders_fly {S:Side}:∀n∈S.unders,∃i,(n,i)∈S.fly:=fun n hn=>by
 obtain ⟨x,hx,rfl⟩:=List.mem_map.1 (unders_mem.1 hn)
 exact ⟨x.2,hx⟩
theorem fly_most {S:Side} (h:S.Fl):S.fly.length≤1024:=by
 have h2:S.fly.map Prod.snd ⊆ S.deps.l.map Chg.at_:=fun j hj=>by
  obtain ⟨x,hx,rfl⟩:=List.mem_map.1 hj
  obtain ⟨c,hc,e,_⟩:=(h.flyB x hx).2
  exact List.mem_map.2 ⟨c,hc,e⟩
 have h3:=h.flyI.length_le_of_subset h2
 rw [List.length_map,List.length_map] at h3
 have:=h.tied.ok.few
 omega
theorem fly_facts {S:Side} (h:S.Fl) {n i:Int} (hm:(n,i)∈S.fly):S.disk.has i∧S.deps.under i∧S.whose n=some i:=by
 obtain ⟨c,hc,e,hs⟩:=(h.flyB _ hm).2
 refine ⟨?_,⟨c,hc,e,hs⟩,(whose_iff h).2 hm⟩
 have:=(h.at_ c hc).1
 rw [e] at this
 exact this
theorem waits_get {S:Side} (h:S.Fl) {n i:Int} (hm:(n,i)∈S.fly):(S.disk.waits.find? (fun x=>decide (x.1=n))).map (·.2)=some ⟨0,0,i,S.deps.sent i (S.disk.get i)⟩:=by
 have hw:=(whose_iff h).2 hm
 unfold Side.whose at hw
 rw [h.waits,List.find?_map]
 obtain ⟨x,hx,rfl⟩:=Option.map_eq_some_iff.1 hw
 have e:((fun x:Int×Wr=>decide (x.1=n)) ∘ fun x:Int×Int=>(x.1,(⟨S.node,S.epoch,x.2,S.deps.sent x.2 (S.disk.get x.2)⟩:Wr)))=fun x=>decide (x.1=n):=rfl
 rw [e,hx]
 show some (⟨S.node,S.epoch,x.2,_⟩:Wr)=_
 rw [h.node.1,h.node.2]
theorem flush_last {S:Side} (h:S.Fl) (pick:Nat→Int):(S.flush pick).disk.last≤S.disk.last+1024:=by
 have hf1:=(writeAll_stay h).fl
 have h1:=ends_at pick hf1 (unders_nodup hf1) unders_fly S.writeAll.unders.length (Nat.le_refl _)
 rw [List.take_length] at h1
 have h2:=writes_at S.deps.sectors S h (sectors_nodup _) h.may_of S.deps.sectors.length (Nat.le_refl _)
 rw [List.take_length] at h2
 have h3:=sectors_len h
 have h4:=h1.2.2
 have h5:=h2.2.2
 show (Side.ends pick S.writeAll 0 S.writeAll.unders).disk.last≤_
 rw [h4]
 show (S.deps.sectors.foldl Side.write S).disk.last≤_
 rw [h5]
 omega
end Go.Proofs.YtaphcmcimoloiaaGreatDoor.Sp
