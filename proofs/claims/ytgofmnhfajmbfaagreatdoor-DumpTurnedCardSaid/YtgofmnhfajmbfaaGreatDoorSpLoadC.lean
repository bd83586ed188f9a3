import Derived.Test.YtgofmnhfajmbfaaGreatDoorSpLoadS
import Derived.Test.YtgofmnhfajmbfaaGreatDoorDumpWorks
namespace Go.Proofs.YtgofmnhfajmbfaaGreatDoor
open Go Go.RowKit Txt Sp
/-! ### numbers -/
theorem q88z {n:Nat} (h:n<10):q3z n=[UInt8.ofNat (48+n)]:=by
 unfold q3z
 rw[Lib.decDigits,dif_pos h]
theorem q142z {n:Nat} (h:¬n<10):q3z n=q3z (n / 10) ++ [UInt8.ofNat (48+n % 10)]:=by
 unfold q3z
 rw[Lib.decDigits,dif_neg h]
theorem dig_val {d:Nat} (h:d<10):Lib.digitVal (UInt8.ofNat (48+d))=some d:=by
 have e:(UInt8.ofNat (48+d)).toNat=48+d:=by rw[UInt8.toNat_ofNat']; omega
 unfold Lib.digitVal
 rw[e,if_pos (by omega)]
 congr 1
 omega
theorem decFrom_snoc {b:UInt8} {d:Nat} (hd:Lib.digitVal b=some d):∀(l:List UInt8) (acc n:Nat),Lib.decFrom acc l=some n→Lib.decFrom acc (l ++ [b])=some (n*10+d)
 | [],acc,n,h=>by
   cases h
   show Lib.decFrom acc [b]=_
   unfold Lib.decFrom
   rw[hd]
   rfl
 | a :: r,acc,n,h=>by
   rw[List.cons_append]
   unfold Lib.decFrom at h ⊢
   cases ha:Lib.digitVal a with
   | none=>rw[ha] at h; cases h
   | some x=>
     rw[ha] at h
     exact decFrom_snoc hd r _ _ h
theorem dec_digits (n:Nat):Lib.decFrom 0 (q3z n)=some n:=by
 induction n using Nat.strongRecOn with
 | _ n ih=>
   by_cases h:n<10
   ·rw[q88z h]
    have:=decFrom_snoc (dig_val h) [] 0 0 rfl
    simpa using this
   ·rw[q142z h]
    have:=decFrom_snoc (dig_val (d:=n % 10) (by omega)) _ 0 _ (ih (n / 10) (by omega))
    rw[this]
    congr 1
    omega
theorem dig_ne (n:Nat):q3z n≠[]:=by
 by_cases h:n<10
 ·rw[q88z h]; simp
 ·rw[q142z h]; simp
theorem dig_head {n:Nat} (h:1≤n):(q3z n).head?≠some 48:=by
 induction n using Nat.strongRecOn with
 | _ n ih=>
   by_cases hn:n<10
   ·rw[q88z hn]
    intro e
    have e2:UInt8.ofNat (48+n)=48:=by simpa using e
    have e3:=congrArg UInt8.toNat e2
    rw[UInt8.toNat_ofNat'] at e3
    have:(48:UInt8).toNat=48:=rfl
    omega
   ·rw[q142z hn,List.head?_append]
    have:=ih (n / 10) (by omega) (by omega)
    cases hd:(q3z (n / 10)).head? with
    | none=>exact absurd (List.head?_eq_none_iff.1 hd) (dig_ne _)
    | some b=>
      rw[hd] at this
      simpa using this
theorem dig_len:∀(k n:Nat),n<10 ^ (k+1)→(q3z n).length≤k+1
 | 0,n,h=>by rw[q88z (by simpa using h)]; simp
 | k+1,n,h=>by
   by_cases hn:n<10
   ·rw[q88z hn]; simp
   ·have:=dig_len k (n / 10) (by rw[Nat.pow_succ] at h; omega)
    rw[q142z hn,List.length_append,List.length_singleton]
    omega
theorem numP_digits {n:Nat} (h:n<1000000000000):numP (q3z n)=some n:=by
 have h1:=dig_len 11 n (by simpa using h)
 unfold numP
 rw[if_neg]
 ·unfold Lib.decNat
  rw[if_neg (by simpa using dig_ne n),dec_digits]
 ·rintro(h2 | ⟨h2,h3⟩)
  ·omega
  ·by_cases h0:1≤n
   ·exact dig_head h0 h3
   ·rw[q88z (by omega)] at h2
    simp at h2
theorem dig_range (n:Nat):∀b∈q3z n,48≤b.toNat∧b.toNat≤57:=by
 induction n using Nat.strongRecOn with
 | _ n ih=>
   have key:∀d,d<10→48≤(UInt8.ofNat (48+d)).toNat∧(UInt8.ofNat (48+d)).toNat≤57:=fun d hd=>by rw[UInt8.toNat_ofNat']; omega
   by_cases h:n<10
   ·rw[q88z h]
    intro b hb
    rw[List.mem_singleton.1 hb]
    exact key n h
   ·rw[q142z h]
    intro b hb
    rcases List.mem_append.1 hb with hb | hb
    ·exact ih (n / 10) (by omega) b hb
    ·rw[List.mem_singleton.1 hb]
     exact key _ (by omega)
theorem q81z:∀l:List Nat,(∀n∈l,n<1000000000000)→numsP (l.map q3z)=some l
 | [],_=>rfl
 | n :: l,h=>by
   have h1:=numP_digits (h n (by simp))
   have h2:=q81z l (fun m hm=>h m (by simp[hm]))
   unfold numsP at h2 ⊢
   rw[List.map_cons]
   unfold allP
   rw[h1,h2]
theorem hexV_D {n:Nat} (h:n<16):hexV (hexD n)=some n:=by
 have key:∀k:Fin 16,hexV (hexD k.val)=some k.val:=by decide +kernel
 exact key ⟨n,h⟩
theorem hexD_range {n:Nat} (h:n<16):48≤(hexD n).toNat∧(hexD n).toNat≤102:=by
 have key:∀k:Fin 16,48≤(hexD k.val).toNat∧(hexD k.val).toNat≤102∧(hexD k.val).toNat≠58:=by decide +kernel
 exact⟨(key ⟨n,h⟩).1,(key ⟨n,h⟩).2.1⟩
theorem hexD_no {n:Nat} (h:n<16):(hexD n).toNat≠58:=by
 have key:∀k:Fin 16,(hexD k.val).toNat≠58:=by decide +kernel
 exact key ⟨n,h⟩
theorem unhex_hex:∀l:List UInt8,q131z (hexL l)=some l
 | []=>rfl
 | b :: r=>by
   have hb:=UInt8.toNat_lt b
   have h1:hexL (b :: r)=hexD (b.toNat / 16) :: hexD (b.toNat % 16) :: hexL r:=rfl
   rw[h1]
   unfold q131z
   rw[hexV_D (by omega),hexV_D (by omega),unhex_hex r]
   show some (UInt8.ofNat (16*(b.toNat / 16)+b.toNat % 16) :: r)=_
   rw[Nat.div_add_mod,UInt8.ofNat_toNat]
theorem hexL_range (l:List UInt8):∀b∈hexL l,48≤b.toNat∧b.toNat≤102∧b.toNat≠58:=by
 intro b hb
 unfold hexL at hb
 obtain⟨c,_,hb⟩:=List.mem_flatMap.1 hb
 have hc:=UInt8.toNat_lt c
 simp only[List.mem_cons,List.not_mem_nil,or_false] at hb
 rcases hb with rfl | rfl
 ·have:=hexD_range (n:=c.toNat / 16) (by omega)
  exact⟨this.1,this.2,hexD_no (by omega)⟩
 ·have:=hexD_range (n:=c.toNat % 16) (by omega)
  exact⟨this.1,this.2,hexD_no (by omega)⟩
/-! ### words -/
theorem q67z {c:UInt8}:∀(ws:List (List UInt8)) (w:List UInt8),(∀b∈w,b≠c)→(∀x∈ws,∀b∈x,b≠c)→cutAt c (w ++ ws.flatMap (fun x=>c :: x))=w :: ws
 | [],w,h,_=>by
   rw[List.flatMap_nil,List.append_nil]
   exact cutAt_free h
 | x :: ws,w,h,hx=>by
   rw[List.flatMap_cons,List.cons_append,cutAt_hit h,q67z ws x (hx x (by simp)) (fun y hy=>hx y (by simp[hy]))]
theorem q96z (l:List Nat):listL l=(l.map q3z).flatMap (fun x=>32 :: x):=by
 unfold listL
 rw[List.flatMap_map]
theorem q125z (n:Nat) (c:UInt8) (hc:c.toNat<48∨57<c.toNat):∀b∈q3z n,b≠c:=fun b hb e=>by
 have:=dig_range n b hb
 rw[e] at this
 omega
theorem q143z (l:List Nat) (c:UInt8) (hc:c.toNat<48∨57<c.toNat):∀x∈l.map q3z,∀b∈x,b≠c:=fun x hx=>by
 obtain⟨n,_,rfl⟩:=List.mem_map.1 hx
 exact q125z n c hc
theorem hex_no (l:List UInt8) (c:UInt8) (hc:c.toNat<48∨102<c.toNat∨c.toNat=58):∀b∈hexL l,b≠c:=fun b hb e=>by
 have:=hexL_range l b hb
 rw[e] at this
 omega
/-! ### what is read of a sector's line -/
theorem readP_blank (g:Sp.Geom) (a:Int):readP g a [wBlank]=some Sp.blank:=by
 unfold readP; dsimp only; rw[if_pos rfl,if_pos rfl]
theorem readP_leases (g:Sp.Geom) (a:Int) (r:List (List UInt8)):readP g a (q48z :: r)=unleaseP g a r:=by
 unfold readP; dsimp only; rw[if_neg (by decide),if_pos rfl]
theorem readP_inode (g:Sp.Geom) (a:Int) (r:List (List UInt8)):readP g a (wInode5 :: r)=unnodeP g r:=by
 unfold readP; dsimp only; rw[if_neg (by decide),if_neg (by decide),if_pos rfl]
theorem readP_dir (g:Sp.Geom) (a:Int) (r:List (List UInt8)):readP g a (wDir :: r)=undirP r:=by
 unfold readP; dsimp only; rw[if_neg (by decide),if_neg (by decide),if_neg (by decide),if_pos rfl]
theorem readP_super {g:Sp.Geom} {a:Int} {r:List (List UInt8)} {x y z:Nat} (h:numsP r=some [x,y,z]) (hok:Geom.ok ⟨x,y,z⟩):readP g a (q94z :: r)=some (q65z ⟨x,y,z⟩):=by
 unfold readP; dsimp only; rw[if_neg (by decide),if_neg (by decide),if_neg (by decide),if_neg (by decide),if_pos rfl,h]
 show(if Geom.ok ⟨x,y,z⟩ then some (q65z ⟨x,y,z⟩) else none)=_
 rw[if_pos hok]
theorem readP_fence {g:Sp.Geom} {a:Int} {r:List (List UInt8)} {x y:Nat} (h:numsP r=some [x,y]) (hx:x<4294967296) (hy:y<4294967296):readP g a (q95z :: r)=some (wallB x y):=by
 unfold readP; dsimp only; rw[if_neg (by decide),if_neg (by decide),if_neg (by decide),if_neg (by decide),if_neg (by decide),if_pos rfl,h]
 show(if x<4294967296∧y<4294967296 then some (wallB x y) else none)=_
 rw[if_pos ⟨hx,hy⟩]
theorem readP_inodes {g:Sp.Geom} {a:Int} {r:List (List UInt8)} {l:List Nat} (h:numsP r=some l):readP g a (q117z :: r)=mapS g.inodes l:=by
 unfold readP; dsimp only; rw[if_neg (by decide),if_neg (by decide),if_neg (by decide),if_neg (by decide),if_neg (by decide),if_neg (by decide),if_pos rfl,h]
theorem readP_blocks {g:Sp.Geom} {a:Int} {r:List (List UInt8)} {l:List Nat} (h:numsP r=some l):readP g a (q118z :: r)=mapS g.blocks l:=by
 unfold readP; dsimp only; rw[if_neg (by decide),if_neg (by decide),if_neg (by decide),if_neg (by decide),if_neg (by decide),if_neg (by decide),if_neg (by decide),if_pos rfl,h]
theorem readP_raw {g:Sp.Geom} {a:Int} {x l:List UInt8} (h:q131z x=some l) (hl:l.length=64):readP g a [wRaw3,x]=some (ofL l):=by
 unfold readP; dsimp only; rw[if_neg (by decide),if_neg (by decide),if_neg (by decide),if_neg (by decide),if_neg (by decide),if_neg (by decide),if_neg (by decide),if_neg (by decide),if_pos rfl]
 show(match q131z x with | some l=>if l.length=64 then some (ofL l) else none | none=>none)=_
 rw[h]
 show(if l.length=64 then some (ofL l) else none)=_
 rw[if_pos hl]
theorem map_back {s:ByteArray} {n:Int} (h:mapC s n=0):mapS n (q12z s.data.toList n.toNat)=some s:=by
 have hz:=q64z h
 have hl:s.data.toList.length=64:=by rw[Array.length_toList]; exact hz.2.2
 have hp:mapP s.data.toList n.toNat=true:=by
  unfold mapC at h
  rw[if_neg (by omega)] at h
  split at h
  ·rename_i h2; exact h2.2
  ·cases h
 have hmem:∀i,i∈q12z s.data.toList n.toNat↔i<n.toNat∧s.data.toList.getD i 0=1:=fun i=>by
  unfold q12z
  rw[List.mem_filter,List.mem_range,beq_iff_eq]
 unfold mapS
 have hc:ofC n ((q12z s.data.toList n.toNat).map Int.ofNat)=0:=by
  unfold ofC
  rw[if_neg]
  rintro(h1 | h1 | ⟨p,hp,h1⟩)
  ·omega
  ·omega
  ·obtain⟨i,hi,rfl⟩:=List.mem_map.1 hp
   have:=((hmem i).1 hi).1
   have e:Int.ofNat i=(i:Int):=rfl
   omega
 rw[if_pos hc]
 congr 1
 refine Txt.ext ?_
 rw[q22z]
 unfold mapP at hp
 rw[Bool.and_eq_true,List.all_eq_true,List.all_eq_true] at hp
 refine List.ext_getElem? fun i=>?_
 unfold mapB
 by_cases hi:i<64
 ·rw[List.getElem?_map,List.getElem?_range hi]
  have hg:s.data.toList[i]? = some (s.data.toList[i]'(by omega)):=List.getElem?_eq_getElem (by omega)
  have hgd:s.data.toList.getD i 0=s.data.toList[i]'(by omega):=by rw[List.getD,hg]; rfl
  rw[hg]
  show some (if(q12z s.data.toList n.toNat).contains i then(1:UInt8) else 0)=_
  congr 1
  by_cases hlt:i<n.toNat
  ·have h1:=hp.1 (s.data.toList[i]'(by omega)) (by
    refine List.mem_of_getElem? (i:=i) ?_
    rw[List.getElem?_take,if_pos hlt]
    exact hg)
   rw[Bool.or_eq_true,beq_iff_eq,beq_iff_eq] at h1
   by_cases h2:s.data.toList.getD i 0=1
   ·rw[if_pos (List.contains_iff_mem.2 ((hmem i).2 ⟨hlt,h2⟩)),←hgd,h2]
   ·rw[if_neg (fun h3=>h2 ((hmem i).1 (List.contains_iff_mem.1 h3)).2)]
    rw[hgd] at h2
    rcases h1 with h1 | h1
    ·exact h1.symm
    ·exact absurd h1 h2
  ·have h1:=hp.2 (s.data.toList[i]'(by omega)) (by
    refine List.mem_of_getElem? (i:=i-n.toNat) ?_
    rw[List.getElem?_drop,show n.toNat+(i-n.toNat)=i by omega]
    exact hg)
   rw[beq_iff_eq] at h1
   rw[if_neg (fun h3=>hlt ((hmem i).1 (List.contains_iff_mem.1 h3)).1),h1]
 ·rw[List.getElem?_eq_none (by simp; omega),List.getElem?_eq_none (by omega)]
theorem lease_word {s:ByteArray} (i:Nat):leaseP (q3z (q30z s i) ++ 46 :: q3z (seqAt s i))=some (q57z s i):=by
 have h1:q30z s i<1000000000000:=by
  have:=Sp.numL_lt ((s.data.toList.drop (4*i)).take 1)
  have hl:((s.data.toList.drop (4*i)).take 1).length≤1:=by rw[List.length_take]; omega
  have h2:256 ^ ((s.data.toList.drop (4*i)).take 1).length≤256 ^ 1:=Nat.pow_le_pow_right (by decide) hl
  unfold q30z numAt
  omega
 have h2:seqAt s i<1000000000000:=by
  have:=Sp.numL_lt ((s.data.toList.drop (4*i+1)).take 3)
  have hl:((s.data.toList.drop (4*i+1)).take 3).length≤3:=by rw[List.length_take]; omega
  have h2:256 ^ ((s.data.toList.drop (4*i+1)).take 3).length≤256 ^ 3:=Nat.pow_le_pow_right (by decide) hl
  have:(256:Nat) ^ 3=16777216:=by decide
  unfold seqAt numAt
  omega
 unfold leaseP
 rw[cutAt_hit (q125z _ 46 (by decide)),cutAt_free (q125z _ 46 (by decide))]
 dsimp only
 rw[numP_digits h1,numP_digits h2]
 rfl
theorem allP_map {α β γ:Type} {f:β→Option γ} {p:α→β} {q:α→γ}:∀l:List α,(∀x∈l,f (p x)=some (q x))→allP f (l.map p)=some (l.map q)
 | [],_=>rfl
 | x :: l,h=>by
   have h1:=h x (by simp)
   have h2:=allP_map l (fun y hy=>h y (by simp[hy]))
   rw[List.map_cons,List.map_cons]
   unfold allP
   rw[h1,h2]
def q104z (s:ByteArray) (n:Nat):List (List UInt8):=(List.range n).map (fun i=>q3z (q30z s i) ++ 46 :: q3z (seqAt s i))
theorem leases_words (s:ByteArray) (n:Nat):q39z s n=(q104z s n).flatMap (fun x=>32 :: x):=by
 unfold q39z q104z
 rw[List.flatMap_map]
theorem unlease_back {g:Sp.Geom} {a:Int} {s:ByteArray} (hg:g.ok) (h0:0≤a) (hs:s.size=64) (hk:(g.kind a).1=2) (h:q52z g a s):unleaseP g a (q104z s (q49z g a))=some s:=by
 obtain⟨p,rfl,hp⟩:=kind_table hg h0 hk
 have hr:=Geom.regions_bd hg
 obtain⟨R,hR⟩:∃R:Nat,g.regions=(R:Int):=⟨g.regions.toNat,by omega⟩
 have hn:q49z g ((p:Int)+2)=min 16 (R-16*p):=by unfold q49z; omega
 have hlen:(q104z s (q49z g ((p:Int)+2))).length=q49z g ((p:Int)+2):=by unfold q104z; rw[List.length_map,List.length_range]
 unfold unleaseP
 rw[if_pos ⟨by omega,by omega,by rw[hlen,hn]; omega⟩]
 have hall:allP leaseP (q104z s (q49z g ((p:Int)+2)))=some ((List.range (q49z g ((p:Int)+2))).map (q57z s)):=allP_map _ (fun i _=>lease_word i)
 rw[hall]
 dsimp only
 rw[hlen,hn]
 obtain⟨n,hN⟩:=zx (min 16 (R-16*p))
 have hrow:List.replicate (((p:Int)+2-2)*16).toNat (((0:Int),(0:Int))) ++ (List.range n).map (q57z s) ++ List.replicate (g.regions-((p:Int)+2-2)*16-(n:Int)).toNat (0,0)=q11z s R (16*p) n:=by
  unfold q11z
  congr 2
  ·congr 2
   omega
  ·omega
 unfold q52z at h
 rw[hn,hN] at h
 rw[hN,hrow]
 have hok:∀x∈q11z s R (16*p) n,q38z x:=leasedRow_ok.2 h.1
 have hc:q50z g (q11z s R (16*p) n)=0:=by
  unfold q50z
  rw[if_pos ⟨hg,by rw[leasedRow_length (by omega)]; omega⟩,if_pos hok]
 unfold q130z
 rw[if_pos hc,show((p:Int)+2-2).toNat=p by omega,q119z _ (by unfold Geom.tables; omega),leasedRow_sec hs (by omega),(leased_same hs (by omega)).2 h.2]
theorem kind_back {k:Int} (h0:0≤k) (h2:k≤2):kindP (kindL k)=k:=by
 have:k=0∨k=1∨k=2:=by omega
 rcases this with rfl | rfl | rfl <;> rfl
theorem inode_back {g:Sp.Geom} {s:ByteArray} (hg:g.ok) (h:q13z g s) :
 unnodeP g (kindL (q6z s).kind :: ([(q6z s).links.toNat,(q6z s).parent.toNat,(q6z s).gen.toNat,(q6z s).size.toNat] ++ (q6z s).direct.map Int.toNat ++ [(q6z s).more.toNat]).map q3z)=some s:=by
 obtain⟨hs,hf,hb⟩:=h
 obtain⟨k0,k2,l0,l1,z0,z1,p0,p1,g0,g1,m0,hd⟩:=fits_num hg hf
 obtain⟨l,hl⟩:=zx ([(q6z s).links.toNat,(q6z s).parent.toNat,(q6z s).gen.toNat,(q6z s).size.toNat] ++ (q6z s).direct.map Int.toNat ++ [(q6z s).more.toNat])
 have hlt:∀n∈l,n<1000000000000:=by
  intro n hn
  rw[←hl] at hn
  simp only[List.mem_append,List.mem_cons,List.not_mem_nil,or_false,List.mem_map] at hn
  rcases hn with (hn | ⟨d,hn,rfl⟩) | rfl
  ·omega
  ·have:=hd d hn
   omega
  ·omega
 have hlen:l.length=13:=by rw[←hl]; simp[q6z]
 have hin:inodeP13 (kindL (q6z s).kind) l=q6z s:=by
  rw[←hl]
  unfold inodeP13
  rw[kind_back k0 k2]
  obtain⟨d,hdd⟩:=zx ((q6z s).direct)
  have hd8:d.length=8:=by rw[←hdd]; simp[q6z]
  rw[hdd] at hd
  have e:q6z s=⟨(q6z s).kind,(q6z s).links,(q6z s).size,(q6z s).parent,(q6z s).gen,d,(q6z s).more⟩:=by rw[←hdd]
  rw[hdd]
  match d,hd8,hd,e with
  | [d0,d1,d2,d3,d4,d5,d6,d7],_,hd,e=>
    rw[e]
    have q:∀x:Int,0≤x→((x.toNat:Nat):Int)=x:=fun x hx=>Int.toNat_of_nonneg hx
    have h8:=fun x hx=>(hd x hx).1
    simp only[List.map_cons,List.map_nil,List.cons_append,List.nil_append,List.getD_cons_zero,List.getD_cons_succ,show List.range 8=[0,1,2,3,4,5,6,7] from rfl,Nat.add_zero,Nat.reduceAdd]
    rw[q _ l0,q _ z0,q _ p0,q _ g0,q _ m0.1,q d0 (h8 d0 (by simp)),q d1 (h8 d1 (by simp)),q d2 (h8 d2 (by simp)),q d3 (h8 d3 (by simp)),q d4 (h8 d4 (by simp)),q d5 (h8 d5 (by simp)),q d6 (h8 d6 (by simp)),q d7 (h8 d7 (by simp))]
 rw[hl]
 unfold unnodeP
 dsimp only
 rw[if_pos (by rw[List.length_map,hlen]),q81z l hlt]
 dsimp only
 rw[hin,if_pos,hb]
 unfold Inode.check
 rw[if_pos hg,if_pos hf]
theorem slot_back {s:ByteArray} {i:Nat} (h:q97z s i):entryP (slotW (q2z s i))=some (q2z s i):=by
 obtain⟨_,hm,_⟩:=h
 obtain⟨n,N,hx,hn⟩:∃(n:Nat) (N:ByteArray),q2z s i=⟨(n:Int),N⟩∧n<1000000000000:=by
  refine⟨_,_,rfl,?_⟩
  have:=Sp.numL_lt ((s.data.toList.drop (16*i)).take 2)
  have hl:((s.data.toList.drop (16*i)).take 2).length≤2:=by rw[List.length_take]; omega
  have h2:256 ^ ((s.data.toList.drop (16*i)).take 2).length≤256 ^ 2:=Nat.pow_le_pow_right (by decide) hl
  have:(256:Nat) ^ 2=65536:=by decide
  unfold numAt
  omega
 rw[hx] at hm ⊢
 by_cases h0:0<n
 ·rw[slotW_one h0]
  unfold entryP
  rw[if_neg,cutAt_hit (q125z _ 58 (by decide)),cutAt_free (hex_no _ 58 (by decide))]
  ·dsimp only
   rw[numP_digits hn,unhex_hex]
   dsimp only
   rw[q133z,if_pos hm]
  ·intro e
   have h1:=dig_ne n
   cases hd:q3z n with
   | nil=>exact h1 hd
   | cons b r=>
     rw[hd] at e
     have:=dig_range n b (by rw[hd]; simp)
     simp only[List.cons_append,List.cons.injEq] at e
     rw[e.1] at this
     exact absurd this (by decide)
 ·obtain rfl:n=0:=by omega
  rw[show((0:Nat):Int)=0 from rfl] at hm ⊢
  rw[slotW_none]
  unfold entryP
  rw[if_pos rfl]
  rcases hm with ⟨_,h2⟩ | ⟨h1,_⟩
  ·have:N=ofL []:=Txt.ext (by
    rw[q22z]
    have h2:N.data.toList.length=0:=by rw[Array.length_toList]; exact h2
    exact List.eq_nil_of_length_eq_zero h2)
   rw[this]
  ·have h1':(1:Int)≤0:=h1
   omega
theorem dir_back {s:ByteArray} (h:q24z s):undirP ((List.range 4).map (fun i=>slotW (q2z s i)))=some s:=by
 have hs:=h.1
 have hl:s.data.toList.length=64:=by rw[Array.length_toList]; exact hs
 unfold undirP
 rw[if_pos (by simp),allP_map (q:=q2z s) _ (fun i hi=>slot_back (h.2 i (List.mem_range.1 hi)).1)]
 dsimp only
 congr 1
 refine Txt.ext ?_
 rw[q22z,List.flatMap_map]
 have e:(List.range 4).flatMap (fun i=>slotL (q2z s i))=(List.range 4).flatMap (q32z s):=by
  have h4:∀i,i<4→slotL (q2z s i)=q32z s i:=fun i hi=>(h.2 i hi).1.2.2
  simp only[show List.range 4=[0,1,2,3] from rfl,List.flatMap_cons,List.flatMap_nil]
  rw[h4 0 (by omega),h4 1 (by omega),h4 2 (by omega),h4 3 (by omega)]
 have h3:=slotsL_take s 4
 unfold q46z at h3
 rw[e,h3,List.take_of_length_le (by omega)]
theorem read_back {g:Sp.Geom} {a:Int} {s:ByteArray} (hg:g.ok) (h0:0≤a) (hs:s.size=64):∃x r,cutAt 32 (whatL g a s)=x :: r∧readP g a (x :: r)=some s:=by
 have hl:s.data.toList.length=64:=by rw[Array.length_toList]; exact hs
 unfold whatL
 split
 ·rename_i hb
  rw[hb]
  exact⟨wBlank,[],rfl,readP_blank g a⟩
 split
 ·rename_i hsu
  obtain⟨_,hok,hb⟩:=hsu
  have e:(⟨((q16z s).groups.toNat:Nat),((q16z s).inodes.toNat:Nat),((q16z s).blocks.toNat:Nat)⟩:Sp.Geom)=q16z s:=by
   have h1:∀i,0≤byteAt s i:=fun i=>by unfold byteAt; omega
   unfold q16z
   dsimp only
   rw[Int.toNat_of_nonneg (h1 4),Int.toNat_of_nonneg (h1 5),Int.toNat_of_nonneg (h1 6)]
  have h1:∀i,(byteAt s i).toNat<256:=fun i=>by
   have:=UInt8.toNat_lt (s.data.toList.getD i 0)
   unfold byteAt
   omega
  refine⟨q94z,[(q16z s).groups.toNat,(q16z s).inodes.toNat,(q16z s).blocks.toNat].map q3z,?_,?_⟩
  ·rw[q96z]
   exact q67z _ _ (by decide) (q143z _ 32 (by decide))
  ·rw[readP_super (q81z _ ?_) (by rw[e]; exact hok),e,hb]
   intro n hn
   have x4:=h1 4
   have x5:=h1 5
   have x6:=h1 6
   simp only[q16z,List.mem_cons,List.not_mem_nil,or_false] at hn
   omega
 split
 ·rename_i hfe
  obtain⟨_,hb⟩:=hfe
  have h4:∀o,numAt s o 4<4294967296:=fun o=>by
   have:=Sp.numL_lt ((s.data.toList.drop o).take 4)
   have hl:((s.data.toList.drop o).take 4).length≤4:=by rw[List.length_take]; omega
   have h2:256 ^ ((s.data.toList.drop o).take 4).length≤256 ^ 4:=Nat.pow_le_pow_right (by decide) hl
   have:(256:Nat) ^ 4=4294967296:=by decide
   unfold numAt
   omega
  have x4:=h4 4
  have x8:=h4 8
  refine⟨q95z,[numAt s 4 4,numAt s 8 4].map q3z,?_,?_⟩
  ·rw[q96z]
   exact q67z _ _ (by decide) (q143z _ 32 (by decide))
  ·rw[readP_fence (q81z _ ?_) x4 x8,hb]
   intro n hn
   simp only[List.mem_cons,List.not_mem_nil,or_false] at hn
   omega
 have hraw:∃x r,cutAt 32 (wRaw ++ hexL s.data.toList)=x :: r∧readP g a (x :: r)=some s:=
  ⟨wRaw3,[hexL s.data.toList],by
   have:=q67z (c:=32) [hexL s.data.toList] wRaw3 (by decide) (fun x hx=>by rw[List.mem_singleton.1 hx]; exact hex_no _ 32 (by decide))
   rw[List.flatMap_cons,List.flatMap_nil,List.append_nil] at this
   exact this,by
   rw[readP_raw (unhex_hex _) hl,q133z]⟩
 cases ht:told g a s with
 | none=>exact hraw
 | some L=>
   show ∃x r,cutAt 32 L=x :: r∧_
   unfold told at ht
   split at ht
   ·rename_i hk
    split at ht
    ·rename_i hle
     cases ht
     refine⟨q48z,q104z s (q49z g a),?_,?_⟩
     ·rw[leases_words]
      refine q67z _ _ (by decide) (fun x hx b hb e=>?_)
      unfold q104z at hx
      obtain⟨i,_,rfl⟩:=List.mem_map.1 hx
      rcases List.mem_append.1 hb with hb | hb
      ·exact q125z _ 32 (by decide) b hb e
      ·rcases List.mem_cons.1 hb with rfl | hb
       ·exact absurd e (by decide)
       ·exact q125z _ 32 (by decide) b hb e
     ·rw[readP_leases]
      exact unlease_back hg h0 hs hk hle
    ·cases ht
   split at ht
   ·split at ht
    ·rename_i hm
     cases ht
     have hz:=q64z hm
     refine⟨q117z,(q12z s.data.toList g.inodes.toNat).map q3z,?_,?_⟩
     ·rw[q96z]
      exact q67z _ _ (by decide) (q143z _ 32 (by decide))
     ·rw[readP_inodes (q81z _ (fun n hn=>?_))]
      ·exact map_back hm
      ·unfold q12z at hn
       have:=List.mem_range.1 (List.mem_filter.1 hn).1
       omega
    ·cases ht
   split at ht
   ·split at ht
    ·rename_i hm
     cases ht
     have hz:=q64z hm
     refine⟨q118z,(q12z s.data.toList g.blocks.toNat).map q3z,?_,?_⟩
     ·rw[q96z]
      exact q67z _ _ (by decide) (q143z _ 32 (by decide))
     ·rw[readP_blocks (q81z _ (fun n hn=>?_))]
      ·exact map_back hm
      ·unfold q12z at hn
       have:=List.mem_range.1 (List.mem_filter.1 hn).1
       omega
    ·cases ht
   split at ht
   ·split at ht
    ·rename_i hi
     cases ht
     refine⟨wInode5,kindL (q6z s).kind :: ([(q6z s).links.toNat,(q6z s).parent.toNat,(q6z s).gen.toNat,(q6z s).size.toNat] ++ (q6z s).direct.map Int.toNat ++ [(q6z s).more.toNat]).map q3z,?_,?_⟩
     ·have e:∀(k:List UInt8) (x:List Nat) (y:List Nat) (z:List Nat),q54z ++ k ++ listL x ++ listL y ++ listL z=wInode5 ++ (k :: (x ++ y ++ z).map q3z).flatMap (fun x=>32 :: x):=fun k x y z=>by
       rw[List.flatMap_cons,←q96z]
       unfold listL
       rw[List.flatMap_append,List.flatMap_append]
       simp only[List.append_assoc,List.cons_append]
       rfl
      rw[e]
      refine q67z _ _ (by decide) (fun x hx=>?_)
      rcases List.mem_cons.1 hx with rfl | hx
      ·unfold kindL
       split
       ·decide
       ·split <;> decide
      ·exact q143z _ 32 (by decide) x hx
     ·rw[readP_inode]
      exact inode_back hg hi
    ·cases ht
   split at ht
   ·split at ht
    ·rename_i hd
     cases ht
     refine⟨wDir,(List.range 4).map (fun i=>slotW (q2z s i)),?_,?_⟩
     ·rw[←List.flatMap_map (f:=fun i=>slotW (q2z s i)) (g:=fun x=>(32:UInt8) :: x)]
      refine q67z _ _ (by decide) (fun x hx b hb e=>?_)
      obtain⟨i,_,rfl⟩:=List.mem_map.1 hx
      unfold slotW at hb
      split at hb
      ·rcases List.mem_append.1 hb with hb | hb
       ·exact q125z _ 32 (by decide) b hb e
       ·rcases List.mem_cons.1 hb with rfl | hb
        ·exact absurd e (by decide)
        ·exact hex_no _ 32 (by decide) b hb e
      ·rw[List.mem_singleton.1 hb] at e
       exact absurd e (by decide)
     ·rw[readP_dir]
      exact dir_back hd
    ·cases ht
   ·cases ht
theorem line_back {g:Sp.Geom} {i:Nat} {s:ByteArray} (hg:g.ok) (hs:s.size=64):lineP g i (lineL g (i:Int) s)=some s:=by
 obtain⟨x,r,hc,hr⟩:=read_back (a:=(i:Int)) hg (by omega) hs
 have h1:cutAt 32 (lineL g (i:Int) s)=q3z i :: x :: r:=by
  unfold lineL
  rw[Int.toNat_natCast,cutAt_hit (q125z _ 32 (by decide)),hc]
 unfold lineP
 rw[h1]
 dsimp only
 rw[if_pos rfl,hr]
 dsimp only
 rw[if_pos rfl]
