import Derived.Test.YtgofmnhfajmbfaaGreatDoorIntDel
import Derived.Test.YtgofmnhfajmbfaaGreatDoorDepsSend
set_option maxRecDepth 20000
set_option maxHeartbeats 4000000
namespace Go.Proofs.YtgofmnhfajmbfaaGreatDoor
open Go Go.RowKit Go.Maps Go.Sort Go.Shelf Go.WideMaps Go.WideShapes
def keyR:Value→Option (DataW Unit×List MemPlace):=fun _=>some (.nil,[])
theorem ients_data {α:Type} {enc:α→Value} {P:Program} {k:TypeId} (hks:P.underlying k=some (.int .i64)) {es:List MapEntry} {l:List (Int×α)} (h:es.map (fun e=>(e.key,e.val))=l.map (IM.encE enc)) (hs:∀x∈l,(Lit.int .i64 x.1).wf=true) :
 (∀x∈es,∃y,WideElems.rd P k keyR x=some y)∧(es.map (WideElems.rg P k keyR)).map (fun p=>Go.intOf p.1)=l.map (·.1):=by
 induction es generalizing l with
 | nil=>
   cases l with
   | nil=>exact⟨fun x hx=>absurd hx (by simp),rfl⟩
   | cons y r=>simp at h
 | cons e es ih=>
   cases l with
   | nil=>simp at h
   | cons y r=>
     rw[List.map_cons,List.map_cons] at h
     injection h with h1 h2
     obtain⟨g1,g2⟩:=ih h2 (fun x hx=>hs x (List.mem_cons_of_mem _ hx))
     have hkey:e.key = .int .i64 y.1:=congrArg (·.1) h1
     have hrd:WideElems.rd P k keyR e=some (.int .i64 y.1,.nil):=by
      unfold WideElems.rd
      rw[hkey,keyOf_int_mk hks (hs y (by simp))]
      rfl
     refine⟨?_,?_⟩
     ·intro x hx
      rcases List.mem_cons.1 hx with rfl | hx
      ·exact⟨_,hrd⟩
      ·exact g1 x hx
     ·rw[List.map_cons,List.map_cons,List.map_cons,WideElems.rg_of hrd,g2]
      rfl
theorem owns_ints {α:Type} {enc:α→Value} {P:Program} {k:TypeId} (hks:P.underlying k=some (.int .i64)) {w:World} {m:Nat} {l:List (Int×α)} (hm:IM.MapAt enc w m l) (hs:∀x∈l,(Lit.int .i64 x.1).wf=true) (hl:l.length≤1000000) :
 ∃D:DataW Unit,w.ownsMap P k keyR m l.length D∧(intKeys D).Perm (l.map (·.1))∧Maps.size D=l.length:=by
 obtain⟨o,ho,es,clock,rfl,hst,hen⟩:=hm
 have hsz:=IM.ents_len hen
 obtain⟨h1,h2⟩:=ients_data hks hen hs
 refine⟨_,⟨es,clock,ho,⟨by rw[hsz]; exact Nat.le_trans hl (by decide),hst,h1⟩,Nat.le_of_eq hsz,rfl⟩,?_,?_⟩
 ·show(((es.toList.map (WideElems.rg P k keyR)).foldr DataW.insert []).map fun p=>Go.intOf p.1).Perm _
  rw[←h2]
  exact(sorted_perm _).map _
 ·show((es.toList.map (WideElems.rg P k keyR)).foldr DataW.insert []).length=_
  rw[(sorted_perm _).length_eq,List.length_map,Array.length_toList,hsz]
theorem isort_in (m:Nat):AnyZI.SortsIn Tryz.prog Tryz.sorted133_ren Fence.wide m:=
 ⟨fun blk off cap ss W hH hblk hsz=>callsIn_wide.2 (Tryz.slices_Sort_int blk off cap ss W hH hblk hsz),
  fun p cap W=>callsIn_wide.2 (Tryz.slices_Sort_int_none p cap W)⟩
theorem ikeys_any (mb:Option Nat) (W:World):Calls Tryz.prog 134 #[.map mb] W fun e w'=>e = .returned (.func (.func 198) #[] #[.pointer (some ⟨W.heap.size,0,none⟩)])∧w' = W.alloc (.cells #[.map mb] 138):=
 callsIn_wide.1 (AnyZI.keys_in Tryz.keys134 Fence.wide 5 trivial rfl mb W)
theorem isorted_raw (b nn:Nat) (D0:DataW Unit) (R:Value→Option (DataW Unit×List MemPlace)) (w:World) (hown:w.ownsMap Tryz.prog 3 R b nn D0) (hmax:Maps.size D0≤maxLen) (hbytes:Maps.size D0*8≤140737488355328) :
 Calls Tryz.prog 133 #[.func (.func 198) #[] #[.pointer (some ⟨w.heap.size,0,none⟩)]] (w.alloc (.cells #[.map (some b)] 138)) fun e w'=>∃(v:Value) (ss:List Int),e = .returned v∧ss.Perm (intKeys D0) ∧
  w'.ownsRow (w.alloc (.cells #[.map (some b)] 138)).heap.size 3 1 v ss.length ((ss.mergeSort (fun x y=>decide (x≤y))).map encZ)∧(v = .slice none 0 0↔ss=[])∧Below (w.alloc (.cells #[.map (some b)] 138)).heap.size (w.alloc (.cells #[.map (some b)] 138)) w':=by
 have hbl:=hown.lt
 have hseq:SeqGives Fence.wide 2 Tryz.prog 198 #[.pointer (some ⟨w.heap.size,0,none⟩)] encZ (fun ss=>ss.Perm (intKeys D0)) (Maps.size D0) (w.alloc (.cells #[.map (some b)] 138)):=
  AnyZI.keys_gives (ρ:=Tryz.keys134_ren) { Tryz.keys134 with } Fence.wide _ trivial rfl (by omega) w.heap.size b nn D0 _ (by simp) (by simp) (by
   obtain⟨es,clock,hb,Ft,hs,hD⟩:=hown
   exact⟨es,clock,(Below.heap_alloc _ _ b hbl).trans hb,Ft,hs,hD⟩)
 exact callsIn_wide.1 (AnyZI.sorted_in Tryz.sorted133 Fence.wide 5 trivial trivial trivial trivial rfl (by omega) (isort_in _) (enters_of Tryz.func193 (by kernel_rfl) rfl) 198 #[.pointer (some ⟨w.heap.size,0,none⟩)] trivial (enters_of Tryz.func198 (by kernel_rfl) rfl) _ _ hmax hbytes _ hseq)
theorem isorted_any {α:Type} {enc:α→Value} {w:World} {m:Nat} {l:List (Int×α)} (hm:IM.MapAt enc w m l) (hs:∀x∈l,(Lit.int .i64 x.1).wf=true) (hl:l.length≤1000000) :
 Calls Tryz.prog 133 #[.func (.func 198) #[] #[.pointer (some ⟨w.heap.size,0,none⟩)]] (w.alloc (.cells #[.map (some m)] 138)) fun e w'=>∃v,e = .returned v∧OwnR 3 1 (fun n:Int=>[Value.int .i64 n]) (w.heap.size+1) w' v ((l.map (·.1)).mergeSort (fun x y=>decide (x≤y))) ∧
  Below (w.alloc (.cells #[.map (some m)] 138)).heap.size (w.alloc (.cells #[.map (some m)] 138)) w':=by
 obtain⟨D,h1,h2,h3⟩:=owns_ints Tryz.underlying3 hm hs hl
 refine(isorted_raw m l.length D keyR w h1 (by rw[h3]; exact Nat.le_trans hl (by decide)) (by rw[h3]; omega)).mono ?_
 rintro e w' ⟨v,ss,rfl,hp,ho,_,hb⟩
 have hp2:ss.Perm (l.map (·.1)):=hp.trans h2
 have he:ss.mergeSort (fun x y=>decide (x≤y))=(l.map (·.1)).mergeSort (fun x y=>decide (x≤y)):=by
  refine List.Perm.eq_of_pairwise (le:=fun a b=>a≤b) (fun a b _ _ h1 h2=>Int.le_antisymm h1 h2) ?_ ?_ ?_
  ·exact(List.pairwise_mergeSort (le:=fun x y:Int=>decide (x≤y)) (fun a b c h1 h2=>decide_eq_true (Int.le_trans (of_decide_eq_true h1) (of_decide_eq_true h2))) (fun a b=>by rcases Int.le_total a b with h | h <;> simp[h]) ss).imp of_decide_eq_true
  ·exact(List.pairwise_mergeSort (le:=fun x y:Int=>decide (x≤y)) (fun a b c h1 h2=>decide_eq_true (Int.le_trans (of_decide_eq_true h1) (of_decide_eq_true h2))) (fun a b=>by rcases Int.le_total a b with h | h <;> simp[h]) _).imp of_decide_eq_true
  ·exact(List.mergeSort_perm _ _).trans (hp2.trans (List.mergeSort_perm _ _).symm)
 have hlen:ss.length=((l.map (·.1)).mergeSort (fun x y=>decide (x≤y))).length:=by rw[hp2.length_eq,List.length_mergeSort]
 rw[he,hlen] at ho
 have hsz:(w.alloc (.cells #[.map (some m)] 138)).heap.size=w.heap.size+1:=by simp
 rw[hsz] at ho
 refine⟨v,rfl,?_,hb⟩
 unfold OwnR
 have hf:∀L:List Int,L.flatMap (fun n:Int=>[Value.int .i64 n])=L.map encZ:=fun L=>by
  induction L with
  | nil=>rfl
  | cons x r ih=>rw[List.flatMap_cons,ih]; rfl
 rw[hf]
 exact ho
theorem ikeys2_any (mb:Option Nat) (W:World):Calls Tryz.prog 169 #[.map mb] W fun e w'=>e = .returned (.func (.func 236) #[] #[.pointer (some ⟨W.heap.size,0,none⟩)])∧w' = W.alloc (.cells #[.map mb] 115):=
 callsIn_wide.1 (AnyZI.keys_in Tryz.keys169 Fence.wide 5 trivial rfl mb W)
theorem isorted2_raw (b nn:Nat) (D0:DataW Unit) (R:Value→Option (DataW Unit×List MemPlace)) (w:World) (hown:w.ownsMap Tryz.prog 3 R b nn D0) (hmax:Maps.size D0≤maxLen) (hbytes:Maps.size D0*8≤140737488355328) :
 Calls Tryz.prog 133 #[.func (.func 236) #[] #[.pointer (some ⟨w.heap.size,0,none⟩)]] (w.alloc (.cells #[.map (some b)] 115)) fun e w'=>∃(v:Value) (ss:List Int),e = .returned v∧ss.Perm (intKeys D0) ∧
  w'.ownsRow (w.alloc (.cells #[.map (some b)] 115)).heap.size 3 1 v ss.length ((ss.mergeSort (fun x y=>decide (x≤y))).map encZ)∧(v = .slice none 0 0↔ss=[])∧Below (w.alloc (.cells #[.map (some b)] 115)).heap.size (w.alloc (.cells #[.map (some b)] 115)) w':=by
 have hbl:=hown.lt
 have hseq:SeqGives Fence.wide 2 Tryz.prog 236 #[.pointer (some ⟨w.heap.size,0,none⟩)] encZ (fun ss=>ss.Perm (intKeys D0)) (Maps.size D0) (w.alloc (.cells #[.map (some b)] 115)):=
  AnyZI.keys_gives (ρ:=Tryz.keys169_ren) { Tryz.keys169 with } Fence.wide _ trivial rfl (by omega) w.heap.size b nn D0 _ (by simp) (by simp) (by
   obtain⟨es,clock,hb,Ft,hs,hD⟩:=hown
   exact⟨es,clock,(Below.heap_alloc _ _ b hbl).trans hb,Ft,hs,hD⟩)
 exact callsIn_wide.1 (AnyZI.sorted_in Tryz.sorted133 Fence.wide 5 trivial trivial trivial trivial rfl (by omega) (isort_in _) (enters_of Tryz.func193 (by kernel_rfl) rfl) 236 #[.pointer (some ⟨w.heap.size,0,none⟩)] trivial (enters_of Tryz.func236 (by kernel_rfl) rfl) _ _ hmax hbytes _ hseq)
theorem isorted2_any {α:Type} {enc:α→Value} {w:World} {m:Nat} {l:List (Int×α)} (hm:IM.MapAt enc w m l) (hs:∀x∈l,(Lit.int .i64 x.1).wf=true) (hl:l.length≤1000000) :
 Calls Tryz.prog 133 #[.func (.func 236) #[] #[.pointer (some ⟨w.heap.size,0,none⟩)]] (w.alloc (.cells #[.map (some m)] 115)) fun e w'=>∃v,e = .returned v∧OwnR 3 1 (fun n:Int=>[Value.int .i64 n]) (w.heap.size+1) w' v ((l.map (·.1)).mergeSort (fun x y=>decide (x≤y))) ∧
  Below (w.alloc (.cells #[.map (some m)] 115)).heap.size (w.alloc (.cells #[.map (some m)] 115)) w':=by
 obtain⟨D,h1,h2,h3⟩:=owns_ints Tryz.underlying3 hm hs hl
 refine(isorted2_raw m l.length D keyR w h1 (by rw[h3]; exact Nat.le_trans hl (by decide)) (by rw[h3]; omega)).mono ?_
 rintro e w' ⟨v,ss,rfl,hp,ho,_,hb⟩
 have hp2:ss.Perm (l.map (·.1)):=hp.trans h2
 have he:ss.mergeSort (fun x y=>decide (x≤y))=(l.map (·.1)).mergeSort (fun x y=>decide (x≤y)):=by
  refine List.Perm.eq_of_pairwise (le:=fun a b=>a≤b) (fun a b _ _ h1 h2=>Int.le_antisymm h1 h2) ?_ ?_ ?_
  ·exact(List.pairwise_mergeSort (le:=fun x y:Int=>decide (x≤y)) (fun a b c h1 h2=>decide_eq_true (Int.le_trans (of_decide_eq_true h1) (of_decide_eq_true h2))) (fun a b=>by rcases Int.le_total a b with h | h <;> simp[h]) ss).imp of_decide_eq_true
  ·exact(List.pairwise_mergeSort (le:=fun x y:Int=>decide (x≤y)) (fun a b c h1 h2=>decide_eq_true (Int.le_trans (of_decide_eq_true h1) (of_decide_eq_true h2))) (fun a b=>by rcases Int.le_total a b with h | h <;> simp[h]) _).imp of_decide_eq_true
  ·exact(List.mergeSort_perm _ _).trans (hp2.trans (List.mergeSort_perm _ _).symm)
 have hlen:ss.length=((l.map (·.1)).mergeSort (fun x y=>decide (x≤y))).length:=by rw[hp2.length_eq,List.length_mergeSort]
 rw[he,hlen] at ho
 have hsz:(w.alloc (.cells #[.map (some m)] 115)).heap.size=w.heap.size+1:=by simp
 rw[hsz] at ho
 refine⟨v,rfl,?_,hb⟩
 unfold OwnR
 have hf:∀L:List Int,L.flatMap (fun n:Int=>[Value.int .i64 n])=L.map encZ:=fun L=>by
  induction L with
  | nil=>rfl
  | cons x r ih=>rw[List.flatMap_cons,ih]; rfl
 rw[hf]
 exact ho
end Go.Proofs.YtgofmnhfajmbfaaGreatDoor
namespace Go.Proofs.YtgofmnhfajmbfaaGreatDoor
open Go Go.RowKit Txt Sp
theorem atsOf_snoc {l:List Chg} {k:Nat} {c:Chg} (hc:l[k]? = some c):atsOf (l.take (k+1))=if c.at_∈atsOf (l.take k) then atsOf (l.take k) else atsOf (l.take k) ++ [c.at_]:=by
 rw[q31z hc]
 exact ats_snoc _ _
theorem atsOf_len (l:List Chg):∀k,(atsOf (l.take k)).length≤k
 | 0=>by rw[List.take_zero]; exact Nat.le_refl 0
 | k+1=>by
   have ih:=atsOf_len l k
   cases hc:l[k]? with
   | none=>
     rw[List.take_of_length_le (by have:=List.getElem?_eq_none_iff.1 hc; omega)] at ih ⊢
     omega
   | some c=>
     rw[atsOf_snoc hc]
     split
     ·omega
     ·rw[List.length_append,List.length_singleton]; omega
section
theorem sectClose_any {w:World} {base B bx:Nat} {d:Sp.Deps} {D:Nat→Prop} (h:DepsAt w base B d D) (ht:d.Tied) (c1:w.heap[bx]? = some (.cells #[.pointer (some ⟨B,0,none⟩)] 114 (0,0))) (x:Int) :
 Calls Tryz.prog 136 #[.int .i64 x,.pointer (some ⟨bx,0,none⟩)] w fun e w'=>e = .returned (.bool (!d.going x))∧Below w.heap.size w w':=by
 have hok:=ht.ok
 have hof:=q118z h x 2 hok.few
 have hre:=fun(W:World) (hW:Below w.heap.size w W)=>depsReady_any (h.below hW) ht x
 have hcc:=fun(W:World) (hW:Below w.heap.size w W)=>zc 0 (heapOld hW c1)
 obtain⟨L,hL⟩:=zx (d.places x 2 d.l.length)
 obtain⟨R,hR⟩:=zx (q34z d x d.l.length)
 have hun:L=[]↔¬d.under x:=by rw[←hL]; exact places_under
 have hrn:R=[]↔d.ready x=[]:=by rw[←hR]; exact readyPl_nil hok x
 have hg:(!d.going x)=decide (¬L=[]∨R=[]):=by
  unfold Sp.Deps.going
  by_cases h1:L=[]
  ·by_cases h2:R=[]
   ·rw[decide_eq_false (fun hh=>hh.2 (hrn.1 h2)),decide_eq_true (Or.inr h2)]; rfl
   ·rw[decide_eq_true ⟨hun.1 h1,fun e=>h2 (hrn.2 e)⟩,decide_eq_false (fun hh=>hh.elim (fun hh=>hh h1) h2)]; rfl
  ·rw[decide_eq_false (fun hh=>h1 (hun.2 hh.1)),decide_eq_true (Or.inl h1)]; rfl
 rw[hL] at hof
 rw[hR] at hre
 rw[hg]
 obtain⟨gv,hgv⟩:=zx (decide (¬L=[]∨R=[]))
 have HGT:Hid (¬L=[]∨R=[]→true=gv):=fun hh=>(decide_eq_true hh).symm.trans hgv
 have HGF:Hid (¬(¬L=[]∨R=[])→false=gv):=fun hh=>(decide_eq_false hh).symm.trans hgv
 rw[hgv]
 unfold pt at hof hre
 have c0:w.cell? ⟨bx,0,none⟩=some (.pointer (some ⟨B,0,none⟩)):=hcc w (Below.refl _ _)
 have HOF:=zh hof
 have HRE:=zh hre
 have HCC:=zh hcc
 clear hof hre hcc
 clear h ht hok hun hrn hg hL hR c1 hgv
 go_enter Tryz.func136,Tryz.ntmps136
 go_wp2_with fail
 clear c0
 refine HOF.out.mono ?_
 rintro e w1 ⟨v,rfl,hv1,hb1⟩
 obtain⟨ad,n,cap,rfl,hn,-,-⟩:=RowAt.facts (OwnR.row (f:=intC) (fun _ _=>rfl) hv1)
 have HB1:=zh hb1
 by_cases h0:L=[]
 ·have hn0:n=0:=by rw[hn.out,h0]; rfl
  subst hn0
  have HR1:=zh (HRE.out w1 hb1)
  have c0:w1.cell? ⟨bx,0,none⟩=some (.pointer (some ⟨B,0,none⟩)):=HCC.out w1 hb1
  clear hv1 hb1 hn HRE HCC HOF
  go_wp2_with fail
  clear c0
  refine HR1.out.mono ?_
  rintro e w2 ⟨v,rfl,hv2,hb2⟩
  obtain⟨ad2,n2,cap2,rfl,hn2,-,-⟩:=RowAt.facts (OwnR.row (f:=intC) (fun _ _=>rfl) hv2)
  have HB2:=zh (blN HB1.out hb2)
  by_cases h2:R=[]
  ·have hn0:n2=0:=by rw[hn2.out,h2]; rfl
   subst hn0
   have HG:=zh (HGT.out (Or.inr h2))
   clear hv2 hb2 hn2 h0 h2
   go_wp2
   go_ret
   exact⟨ret_bool HG.out,HB2.out⟩
  ·have hn0:n2≠0:=fun e=>h2 (List.eq_nil_of_length_eq_zero (by rw[←hn2.out]; exact e))
   have q1:((n2:Int) == 0)=false:=beq_eq_false_iff_ne.2 (by omega)
   have HG:=zh (HGF.out (fun hh=>hh.elim (fun hh=>hh h0) h2))
   clear hv2 hb2 hn2 h0 h2
   go_wp2
   go_ret
   exact⟨ret_bool HG.out,HB2.out⟩
 ·have hn0:n≠0:=fun e=>h0 (List.eq_nil_of_length_eq_zero (by rw[←hn.out]; exact e))
  have q1:(0:Int)<(n:Int):=by omega
  have HG:=zh (HGT.out (Or.inl h0))
  clear hv1 hb1 hn HRE HCC HOF h0
  go_wp2
  go_ret
  exact⟨ret_bool HG.out,HB1.out⟩
/-- What the loop of Sectors finds in memory. -/
structure SecM (w:World) (B:Nat) (d:Sp.Deps) (k:Nat) (wr:World):Prop where
 bel:Below w.heap.size w wr
 box:wr.heap[w.heap.size]? = some (.cells #[.pointer (some ⟨B,0,none⟩)] 114 (0,0))
 map:IM.MapAt truV wr (w.heap.size+1) (truE (atsOf (d.l.take k)))
theorem SecM.below {w wr wr':World} {B:Nat} {d:Sp.Deps} {k:Nat} (h:SecM w B d k wr) (hb:Below wr.heap.size wr wr'):SecM w B d k wr':=
 ⟨blN h.bel hb,heapOld hb h.box,h.map.old (hb.block _ h.map.lt)⟩
theorem depsSectors_any {w:World} {base B:Nat} {d:Sp.Deps} {D:Nat→Prop} (h:DepsAt w base B d D) (ht:d.Tied) (hat:∀c∈d.l,0≤c.at_∧c.at_≤1000000) :
 Calls Tryz.prog 69 #[pt B] w fun e w'=>∃v,e = .returned v∧OwnR 3 1 intC w.heap.size w' v d.sectors∧Below w.heap.size w w':=by
 obtain⟨ad,n,cap,c0,hBl,HN,hn2,HF⟩:=h.open2
 have hmm:=@run_makeMap Tryz.prog
 have HCl:Hid (∀W,Below w.heap.size w W→W.heap[w.heap.size]? = some (.cells #[.pointer (some ⟨B,0,none⟩)] 114 (0,0))→∀x,Calls Tryz.prog 136 #[.int .i64 x,.pointer (some ⟨w.heap.size,0,none⟩)] W fun e w'=>e = .returned (.bool (!d.going x))∧Below W.heap.size W w'):=
  fun W hW hx x=>sectClose_any (h.below hW) ht hx x
 have HAts:Hid ((truE (atsOf d.l)).length≤1000000∧∀x∈truE (atsOf d.l),(Lit.int .i64 x.1).wf=true):=by
  refine⟨?_,fun x hx=>?_⟩
  ·have h1:=atsOf_len d.l d.l.length
   rw[List.take_length] at h1
   have h2:=ht.ok.few
   rw[truE_length]
   omega
  ·obtain⟨i,hi,rfl⟩:=List.mem_map.1 hx
   obtain⟨c,hc,rfl⟩:=(ats_mem d.l i).1 hi
   have:=hat c hc
   show(decide (IntKind.i64.min≤c.at_) && decide (c.at_≤IntKind.i64.max))=true
   rw[Bool.and_eq_true,decide_eq_true_iff,decide_eq_true_iff]
   have e1:IntKind.i64.min = -9223372036854775808:=by decide
   have e2:IntKind.i64.max=9223372036854775807:=by decide
   omega
 have HSec:Hid (leftI (fun x=>!d.going x) (((truE (atsOf d.l)).map (·.1)).mergeSort (fun x y=>decide (x≤y)))=d.sectors):=by
  have e:(truE (atsOf d.l)).map (·.1)=atsOf d.l:=truE_keys _
  rw[e]
  unfold Sp.Deps.sectors leftI
  congr 1
  funext x
  exact Bool.not_not _
 clear h ht hat
 unfold pt
 go_enter Tryz.func69,Tryz.ntmps69
 obtain⟨W1,hW1⟩:=zx ((w.alloc (.cells #[.pointer (some ⟨B,0,none⟩)] 114)).alloc (.map #[] 0))
 have hb1:Below w.heap.size w W1:=by rw[←hW1]; exact bl1 (bl2 _) _
 have hx1:W1.heap[w.heap.size]? = some (.cells #[.pointer (some ⟨B,0,none⟩)] 114 (0,0)):=by
  rw[←hW1]
  exact heapOld (bl2 _) (heapNew w _)
 have hm1:IM.MapAt truV W1 (w.heap.size+1) (truE []):=by
  have:=heapNew (w.alloc (.cells #[.pointer (some ⟨B,0,none⟩)] 114)) (.map #[] 0)
  rw[←hW1]
  refine⟨_,?_,IM.IsMap.new⟩
  simpa using this
 have HM1:Hid (SecM w B d 0 W1):=⟨hb1,hx1,by rw[List.take_zero]; exact hm1⟩
 have x0:W1.cell? ⟨w.heap.size,0,none⟩=some (.pointer (some ⟨B,0,none⟩)):=zc 0 hx1
 have y0:=(hb1.cell (p:=⟨B,0,none⟩) hBl).trans c0
 clear hb1 hx1 hm1
 go_wp2
 clear x0 y0 hW1
 go_loopw [13] (fun q wr=>∃k:Nat,k≤n∧q = .int .i64 (k:Int)∧Hid (SecM w B d k wr)) (fun q _=>n-(intOf q).toNat)
 case atStart=>exact⟨0,Nat.zero_le _,rfl,HM1⟩
 case round=>
  clear HM1
  obtain⟨k,hk,rfl,HM⟩:=hrel
  by_cases hlt:k<n
  ·obtain⟨b,o,c,ua,un,uc,rfl,hb,hx,-,hc⟩:=HF.out k hlt
   have hst:=atsOf_snoc hx
   obtain⟨cn,ca,co,cb,ch,cs⟩:=c
   dsimp only at hst
   have c0:=(HM.out.bel.cell (p:=⟨b,o+k*6+0,none⟩) hb).trans (hc 0 _ rfl)
   have c1:=(HM.out.bel.cell (p:=⟨b,o+k*6+1,none⟩) hb).trans (hc 1 _ rfl)
   have c2:=(HM.out.bel.cell (p:=⟨b,o+k*6+2,none⟩) hb).trans (hc 2 _ rfl)
   have c3:=(HM.out.bel.cell (p:=⟨b,o+k*6+3,none⟩) hb).trans (hc 3 _ rfl)
   have c4:=(HM.out.bel.cell (p:=⟨b,o+k*6+4,none⟩) hb).trans (hc 4 _ rfl)
   have c5:=(HM.out.bel.cell (p:=⟨b,o+k*6+5,none⟩) hb).trans (hc 5 _ rfl)
   simp only[Nat.add_zero] at c0
   obtain⟨W5,hW5⟩:=zx (wr.alloc (.cells #[.int .i64 (cn:Int),.int .i64 ca,.int .i64 co,.string cb,.slice ua un uc,.int .i64 cs] 209))
   have hb5:Below wr.heap.size wr W5:=by rw[←hW5]; exact bl2 _
   have hz5:W5.heap[wr.heap.size]? = some (.cells #[.int .i64 (cn:Int),.int .i64 ca,.int .i64 co,.string cb,.slice ua un uc,.int .i64 cs] 209 (0,0)):=by rw[←hW5]; exact heapNew wr _
   have hM5:=HM.out.below hb5
   have z1:W5.cell? ⟨wr.heap.size,1,none⟩=some (.int .i64 ca):=zc 1 hz5
   obtain⟨o',hup,ho'⟩:=tru_update hM5.map ca
   rw[←hst] at ho'
   obtain⟨W7,hW7⟩:=zx (ChangeMaps.setBlock W5 (w.heap.size+1) o')
   rw[hW7] at hup
   have hT7:Turn (fun j=>j=w.heap.size+1) W5 W7:=by rw[←hW7]; exact q98z
   have HM7:Hid (SecM w B d (k+1) W7):=⟨hM5.bel.trans (hT7.below (fun j e=>by omega) (by have:=hM5.bel.size; omega)),hT7.heap hM5.box (by omega),⟨o',by rw[←hW7]; exact IM.heap_setBlock_at hM5.map.lt,ho'⟩⟩
   have k1:(k:Int)<(n:Int):=by omega
   clear hb5 hz5 hM5 ho' hW7 hT7 hst hb hx hc
   go_wp2
   go_roundw
   case rel=>exact⟨k+1,by omega,by go_num,HM7⟩
   case measure=>simp[intOf]; omega
  ·have hkn:k=d.l.length:=by have:=HN.out; omega
   have k1:¬((k:Int)<(n:Int)):=by omega
   have hmap:=HM.out.map
   rw[hkn,List.take_length] at hmap
   have hso:=isorted_any hmap HAts.out.2 HAts.out.1
   have HK:=zh (fun W:World=>ikeys_any (some (w.heap.size+1)) W)
   have HSo:=zh hso
   have HB0:=zh HM.out.bel
   have HX0:=zh HM.out.box
   clear hso hmap hkn HF HAts HM
   go_wp2_with fail
   refine(HK.out _).mono ?_
   rintro e w8 ⟨rfl,rfl⟩
   go_wp2_with fail
   refine HSo.out.mono ?_
   rintro e w9 ⟨v,rfl,hv9,hb9⟩
   have hb9':Below wr.heap.size wr w9:=blN (bl2 _) hb9
   have hbw:Below w.heap.size w w9:=blN HB0.out hb9'
   have hx9:=heapOld hb9' HX0.out
   have hv9:OwnR 3 1 intC (wr.heap.size+1) w9 v (((truE (atsOf d.l)).map (·.1)).mergeSort (fun x y=>decide (x≤y))):=hv9
   have hlo:∀k,v.ownBlock=some k→wr.heap.size+1≤k:=fun k hk=>(hv9.lt k hk).1
   have hwr:w.heap.size<wr.heap.size:=(Array.getElem?_eq_some_iff.1 HX0.out).1
   have hdl:=sectDelete_any (bx:=w.heap.size) (fun x=>!d.going x) hv9 (fun W hT x=>
    HCl.out W (hbw.trans (hT.below (fun k hk=>by have:=hlo k hk; omega) hbw.size)) (hT.heap hx9 (fun hk=>by have:=hlo _ hk; omega)) x)
   have HFin:Hid (∀e w2,q176z (fun x=>!d.going x) (wr.heap.size+1) v (((truE (atsOf d.l)).map (·.1)).mergeSort (fun x y=>decide (x≤y))) w9 e w2→∃v',e = .returned v'∧OwnR 3 1 intC w.heap.size w2 v' d.sectors∧Below w.heap.size w w2):=by
    rintro e w2 ⟨v',rfl,r1,r2,K,k1,k2,hT⟩
    rw[HSec.out] at r1
    exact⟨v',rfl,r1.mono (by omega),hbw.trans (hT.below (fun k hk=>by have:=hlo k (k1 k hk); omega) hbw.size)⟩
   have HDl:=zh hdl
   clear hdl hx9 hbw hb9' hb9 hv9 hlo hwr HCl HSo HK
   go_wp2_with fail
   refine HDl.out.mono ?_
   intro e w10 hp
   obtain⟨v',rfl,hv',hb'⟩:=HFin.out e w10 hp
   have HE:Hid (OwnR 3 1 intC w.heap.size w10 v' d.sectors∧Below w.heap.size w w10):=⟨hv',hb'⟩
   clear hp hv' hb' HDl HFin
   go_wp2
   go_ret
   exact⟨_,rfl,HE.out.1,HE.out.2⟩
end
