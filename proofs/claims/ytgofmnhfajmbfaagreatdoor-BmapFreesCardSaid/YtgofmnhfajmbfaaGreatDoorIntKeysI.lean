/-
 DERIVED: THE SHELF's CONTRACTS AT THIS DUMP,IN PLAIN WORDS (tools/lay-plain.mjs out of 'TryzIterI.lean',which tools/lay-shelf.mjs wrote): THE SAME DECLARATIONS UNDER THE SAME NAMES: 'import','namespace','open','def','theorem' AND NOTHING ELSE: no command of the shelf's: FOR A HAND-IN. Each laying: the table of numbers ('.._ren') and one theorem,a field a fact of the dump's own or the kernel's comparison; each contract: ONE APPLICATION.
-/
import Derived.Shelf.SlIterI.Nil
import Derived.Test.YtgofmnhfajmbfaaGreatDoorSidA
set_option maxHeartbeats 1000000
namespace Go.Proofs
open Go.Shelf
def Tryz.sorted133_ren:Go.Shelf.Ren:=⟨fun | 6=>133 | 8=>197 | 9=>193 | 11=>256 | 13=>156 | 12=>254 | 23=>218 | 24=>219 | 14=>287 | 15=>288 | 16=>289 | 17=>290 | 18=>291 | 19=>292 | 20=>293 | 21=>294 | 22=>295 | 25=>309 | 26=>263 | 27=>264 | 28=>310 | 29=>311 | 30=>157 | 31=>322 | n=>n,fun | 26=>3 | 28=>215 | 24=>58 | 0=>0 | 3=>3 | 37=>241 | 48=>292 | 50=>294 | 4=>4 | 40=>286 | 39=>285 | 45=>255 | 5=>5 | 9=>9 | 51=>334 | 55=>338 | 57=>360 | 58=>361 | 33=>183 | n=>n,fun | n=>n⟩
theorem Tryz.sorted133:Go.Proofs.SlLaysZI.n6 Tryz.prog Tryz.sorted133_ren:={
 mixed:=by kernel_rfl
 f6:=⟨Tryz.f133.name,by decide,Tryz.func133.trans (congrArg some (by kernel_rfl))⟩
 f8:=⟨Tryz.f197.name,by decide,Tryz.func197.trans (congrArg some (by kernel_rfl))⟩
 f11:=⟨Tryz.f256.name,by decide,Tryz.func256.trans (congrArg some (by kernel_rfl))⟩
 t0:=Tryz.underlying0
 a0:=Tryz.isAgg0
 z0:=Tryz.sizeOf0
 v0:=Tryz.zeroValue0
 t24:=Tryz.underlying58
 a24:=Tryz.isAgg58
 z24:=Tryz.sizeOf58
 v24:=Tryz.zeroValue58
 t26:=Tryz.underlying3
 a26:=Tryz.isAgg3
 z26:=Tryz.sizeOf3
 v26:=Tryz.zeroValue3
 t28:=Tryz.underlying215
 a28:=Tryz.isAgg215
 z28:=Tryz.sizeOf215
 v28:=Tryz.zeroValue215
 i26:=by kernel_rfl }
def Tryz.keys134_ren:Go.Shelf.Ren:=⟨fun | 7=>134 | 10=>198 | n=>n,fun | 23=>138 | 26=>3 | 3=>4 | 28=>215 | 0=>0 | 27=>214 | 33=>183 | 4=>4 | n=>n,fun | n=>n⟩
theorem Tryz.keys134:Go.Proofs.SlLaysZI.n7 Tryz.prog Tryz.keys134_ren:={
 mixed:=by kernel_rfl
 f7:=⟨Tryz.f134.name,by decide,Tryz.func134.trans (congrArg some (by kernel_rfl))⟩
 f10:=⟨Tryz.f198.name,by decide,Tryz.func198.trans (congrArg some (by kernel_rfl))⟩
 t0:=Tryz.underlying0
 a0:=Tryz.isAgg0
 z0:=Tryz.sizeOf0
 v0:=Tryz.zeroValue0
 t4:=Tryz.underlying4
 a4:=Tryz.isAgg4
 z4:=Tryz.sizeOf4
 v4:=Tryz.zeroValue4
 t23:=Tryz.underlying138
 a23:=Tryz.isAgg138
 z23:=Tryz.sizeOf138
 v23:=Tryz.zeroValue138
 t26:=Tryz.underlying3
 a26:=Tryz.isAgg3
 z26:=Tryz.sizeOf3
 v26:=Tryz.zeroValue3
 t27:=Tryz.underlying214
 a27:=Tryz.isAgg214
 z27:=Tryz.sizeOf214
 v27:=Tryz.zeroValue214
 t28:=Tryz.underlying215
 a28:=Tryz.isAgg215
 z28:=Tryz.sizeOf215
 v28:=Tryz.zeroValue215
 t33:=Tryz.underlying183
 a33:=Tryz.isAgg183
 z33:=Tryz.sizeOf183
 v33:=Tryz.zeroValue183 }
def Tryz.keys169_ren:Go.Shelf.Ren:=⟨fun | 7=>169 | 10=>236 | n=>n,fun | 23=>115 | 26=>3 | 3=>3 | 28=>215 | 0=>0 | 27=>214 | 33=>183 | 4=>4 | n=>n,fun | n=>n⟩
theorem Tryz.keys169:Go.Proofs.SlLaysZI.n7 Tryz.prog Tryz.keys169_ren:={
 mixed:=by kernel_rfl
 f7:=⟨Tryz.f169.name,by decide,Tryz.func169.trans (congrArg some (by kernel_rfl))⟩
 f10:=⟨Tryz.f236.name,by decide,Tryz.func236.trans (congrArg some (by kernel_rfl))⟩
 t0:=Tryz.underlying0
 a0:=Tryz.isAgg0
 z0:=Tryz.sizeOf0
 v0:=Tryz.zeroValue0
 t4:=Tryz.underlying4
 a4:=Tryz.isAgg4
 z4:=Tryz.sizeOf4
 v4:=Tryz.zeroValue4
 t23:=Tryz.underlying115
 a23:=Tryz.isAgg115
 z23:=Tryz.sizeOf115
 v23:=Tryz.zeroValue115
 t26:=Tryz.underlying3
 a26:=Tryz.isAgg3
 z26:=Tryz.sizeOf3
 v26:=Tryz.zeroValue3
 t27:=Tryz.underlying214
 a27:=Tryz.isAgg214
 z27:=Tryz.sizeOf214
 v27:=Tryz.zeroValue214
 t28:=Tryz.underlying215
 a28:=Tryz.isAgg215
 z28:=Tryz.sizeOf215
 v28:=Tryz.zeroValue215
 t33:=Tryz.underlying183
 a33:=Tryz.isAgg183
 z33:=Tryz.sizeOf183
 v33:=Tryz.zeroValue183 }
end Go.Proofs
namespace Go.Proofs.YtgofmnhfajmbfaaGreatDoor
open Go
theorem ps0:(∀{α:Type} (l:List α) (i:Nat) (a:α),l.toArray.setIfInBounds i a=(l.set i a).toArray)∧(∀{α:Type} (x:α) (xs:List α) (a:α),(x :: xs).set 0 a=a :: xs)∧(∀{α:Type} (x:α) (xs:List α) (n:Nat) (a:α),(x :: xs).set (n+1) a=x :: xs.set n a) ∧
 (∀{α:Type} (xs:List α) (i:Nat) (h:i<xs.toArray.size),xs.toArray[i]=xs[i]'(by simpa using h))∧(∀{α:Type} (x:α) (xs:List α) (h:0<(x :: xs).length),(x :: xs)[0]=x)∧(∀{α:Type} (x:α) (xs:List α) (i:Nat) (h:i+1<(x :: xs).length),(x :: xs)[i+1]=xs[i]'(Nat.lt_of_succ_lt_succ h)):=
 ⟨fun l i a=>by simp,fun _ _ _=>rfl,fun _ _ _ _=>rfl,fun _ _ _=>by simp,fun _ _ _=>rfl,fun _ _ _ _=>rfl⟩
theorem gg0:(∀{α:Type} (xs:List α) (i:Nat) (h:i<xs.toArray.size),xs.toArray[i]=xs[i]'(by simpa using h))∧(∀{α:Type} (x:α) (xs:List α) (h:0<(x :: xs).length),(x :: xs)[0]=x)∧(∀{α:Type} (x:α) (xs:List α) (i:Nat) (h:i+1<(x :: xs).length),(x :: xs)[i+1]=xs[i]'(Nat.lt_of_succ_lt_succ h)):=
 ⟨fun _ _ _=>by simp,fun _ _ _=>rfl,fun _ _ _ _=>rfl⟩
end Go.Proofs.YtgofmnhfajmbfaaGreatDoor
namespace Go.Proofs.YtgofmnhfajmbfaaGreatDoor
open Go Go.RowKit Go.Maps Go.Sort Go.Shelf Go.WideMaps Go.WideShapes
def keyR:Value→Option (DataW Unit×List MemPlace):=fun _=>some (.nil,[])
theorem ients_data {α:Type} {enc:α→Value} {P:Program} {k:TypeId} (hks:P.underlying k=some (.int .i64)) {es:List MapEntry} {l:List (Int×α)} (h:es.map (fun e=>(e.key,e.val))=l.map (IM.encE enc)) (hs:∀x∈l,(Lit.int .i64 x.1).wf=true) :
 (∀x∈es,∃y,WideElems.rd P k keyR x=some y)∧(es.map (WideElems.rg P k keyR)).map (fun p=>Go.intOf p.1)=l.map (·.1):=by
 induction es generalizing l with
 | nil=>
   cases l with
   | nil=>exact⟨fun x hx=>absurd hx (by simp),rfl⟩
   | cons y r=>simp at h
 | cons e es ih=>
   cases l with
   | nil=>simp at h
   | cons y r=>
     rw[List.map_cons,List.map_cons] at h
     injection h with h1 h2
     obtain⟨g1,g2⟩:=ih h2 (fun x hx=>hs x (List.mem_cons_of_mem _ hx))
     have hkey:e.key = .int .i64 y.1:=congrArg (·.1) h1
     have hrd:WideElems.rd P k keyR e=some (.int .i64 y.1,.nil):=by
      unfold WideElems.rd
      rw[hkey,keyOf_int_mk hks (hs y (by simp))]
      rfl
     refine⟨?_,?_⟩
     ·intro x hx
      rcases List.mem_cons.1 hx with rfl | hx
      ·exact⟨_,hrd⟩
      ·exact g1 x hx
     ·rw[List.map_cons,List.map_cons,List.map_cons,WideElems.rg_of hrd,g2]
      rfl
theorem owns_ints {α:Type} {enc:α→Value} {P:Program} {k:TypeId} (hks:P.underlying k=some (.int .i64)) {w:World} {m:Nat} {l:List (Int×α)} (hm:IM.MapAt enc w m l) (hs:∀x∈l,(Lit.int .i64 x.1).wf=true) (hl:l.length≤1000000) :
 ∃D:DataW Unit,w.ownsMap P k keyR m l.length D∧(intKeys D).Perm (l.map (·.1))∧Maps.size D=l.length:=by
 obtain⟨o,ho,es,clock,rfl,hst,hen⟩:=hm
 have hsz:=IM.ents_len hen
 obtain⟨h1,h2⟩:=ients_data hks hen hs
 refine⟨_,⟨es,clock,ho,⟨by rw[hsz]; exact Nat.le_trans hl (by decide),hst,h1⟩,Nat.le_of_eq hsz,rfl⟩,?_,?_⟩
 ·show(((es.toList.map (WideElems.rg P k keyR)).foldr DataW.insert []).map fun p=>Go.intOf p.1).Perm _
  rw[←h2]
  exact(sorted_perm _).map _
 ·show((es.toList.map (WideElems.rg P k keyR)).foldr DataW.insert []).length=_
  rw[(sorted_perm _).length_eq,List.length_map,Array.length_toList,hsz]
theorem isort_in (m:Nat):AnyZI.SortsIn Tryz.prog Tryz.sorted133_ren Fence.wide m:=
 ⟨fun blk off cap ss W hH hblk hsz=>callsIn_wide.2 (Tryz.slices_Sort_int blk off cap ss W hH hblk hsz),
  fun p cap W=>callsIn_wide.2 (Tryz.slices_Sort_int_none p cap W)⟩
theorem ikeys_any (mb:Option Nat) (W:World):Calls Tryz.prog 134 #[.map mb] W fun e w'=>e = .returned (.func (.func 198) #[] #[.pointer (some ⟨W.heap.size,0,none⟩)])∧w' = W.alloc (.cells #[.map mb] 138):=
 callsIn_wide.1 (AnyZI.keys_in Tryz.keys134 Fence.wide 5 trivial rfl mb W)
theorem isorted_raw (b nn:Nat) (D0:DataW Unit) (R:Value→Option (DataW Unit×List MemPlace)) (w:World) (hown:w.ownsMap Tryz.prog 3 R b nn D0) (hmax:Maps.size D0≤maxLen) (hbytes:Maps.size D0*8≤140737488355328) :
 Calls Tryz.prog 133 #[.func (.func 198) #[] #[.pointer (some ⟨w.heap.size,0,none⟩)]] (w.alloc (.cells #[.map (some b)] 138)) fun e w'=>∃(v:Value) (ss:List Int),e = .returned v∧ss.Perm (intKeys D0) ∧
  w'.ownsRow (w.alloc (.cells #[.map (some b)] 138)).heap.size 3 1 v ss.length ((ss.mergeSort (fun x y=>decide (x≤y))).map encZ)∧(v = .slice none 0 0↔ss=[])∧Below (w.alloc (.cells #[.map (some b)] 138)).heap.size (w.alloc (.cells #[.map (some b)] 138)) w':=by
 have hbl:=hown.lt
 have hseq:SeqGives Fence.wide 2 Tryz.prog 198 #[.pointer (some ⟨w.heap.size,0,none⟩)] encZ (fun ss=>ss.Perm (intKeys D0)) (Maps.size D0) (w.alloc (.cells #[.map (some b)] 138)):=
  AnyZI.keys_gives (ρ:=Tryz.keys134_ren) { Tryz.keys134 with } Fence.wide _ trivial rfl (by omega) w.heap.size b nn D0 _ (by simp) (by simp) (by
   obtain⟨es,clock,hb,Ft,hs,hD⟩:=hown
   exact⟨es,clock,(Below.heap_alloc _ _ b hbl).trans hb,Ft,hs,hD⟩)
 exact callsIn_wide.1 (AnyZI.sorted_in Tryz.sorted133 Fence.wide 5 trivial trivial trivial trivial rfl (by omega) (isort_in _) (enters_of Tryz.func193 (by kernel_rfl) rfl) 198 #[.pointer (some ⟨w.heap.size,0,none⟩)] trivial (enters_of Tryz.func198 (by kernel_rfl) rfl) _ _ hmax hbytes _ hseq)
theorem isorted_any {α:Type} {enc:α→Value} {w:World} {m:Nat} {l:List (Int×α)} (hm:IM.MapAt enc w m l) (hs:∀x∈l,(Lit.int .i64 x.1).wf=true) (hl:l.length≤1000000) :
 Calls Tryz.prog 133 #[.func (.func 198) #[] #[.pointer (some ⟨w.heap.size,0,none⟩)]] (w.alloc (.cells #[.map (some m)] 138)) fun e w'=>∃v,e = .returned v∧OwnR 3 1 (fun n:Int=>[Value.int .i64 n]) (w.heap.size+1) w' v ((l.map (·.1)).mergeSort (fun x y=>decide (x≤y))) ∧
  Below (w.alloc (.cells #[.map (some m)] 138)).heap.size (w.alloc (.cells #[.map (some m)] 138)) w':=by
 obtain⟨D,h1,h2,h3⟩:=owns_ints Tryz.underlying3 hm hs hl
 refine(isorted_raw m l.length D keyR w h1 (by rw[h3]; exact Nat.le_trans hl (by decide)) (by rw[h3]; omega)).mono ?_
 rintro e w' ⟨v,ss,rfl,hp,ho,_,hb⟩
 have hp2:ss.Perm (l.map (·.1)):=hp.trans h2
 have he:ss.mergeSort (fun x y=>decide (x≤y))=(l.map (·.1)).mergeSort (fun x y=>decide (x≤y)):=by
  refine List.Perm.eq_of_pairwise (le:=fun a b=>a≤b) (fun a b _ _ h1 h2=>Int.le_antisymm h1 h2) ?_ ?_ ?_
  ·exact(List.pairwise_mergeSort (le:=fun x y:Int=>decide (x≤y)) (fun a b c h1 h2=>decide_eq_true (Int.le_trans (of_decide_eq_true h1) (of_decide_eq_true h2))) (fun a b=>by rcases Int.le_total a b with h | h <;> simp[h]) ss).imp of_decide_eq_true
  ·exact(List.pairwise_mergeSort (le:=fun x y:Int=>decide (x≤y)) (fun a b c h1 h2=>decide_eq_true (Int.le_trans (of_decide_eq_true h1) (of_decide_eq_true h2))) (fun a b=>by rcases Int.le_total a b with h | h <;> simp[h]) _).imp of_decide_eq_true
  ·exact(List.mergeSort_perm _ _).trans (hp2.trans (List.mergeSort_perm _ _).symm)
 have hlen:ss.length=((l.map (·.1)).mergeSort (fun x y=>decide (x≤y))).length:=by rw[hp2.length_eq,List.length_mergeSort]
 rw[he,hlen] at ho
 have hsz:(w.alloc (.cells #[.map (some m)] 138)).heap.size=w.heap.size+1:=by simp
 rw[hsz] at ho
 refine⟨v,rfl,?_,hb⟩
 unfold OwnR
 have hf:∀L:List Int,L.flatMap (fun n:Int=>[Value.int .i64 n])=L.map encZ:=fun L=>by
  induction L with
  | nil=>rfl
  | cons x r ih=>rw[List.flatMap_cons,ih]; rfl
 rw[hf]
 exact ho
theorem ikeys2_any (mb:Option Nat) (W:World):Calls Tryz.prog 169 #[.map mb] W fun e w'=>e = .returned (.func (.func 236) #[] #[.pointer (some ⟨W.heap.size,0,none⟩)])∧w' = W.alloc (.cells #[.map mb] 115):=
 callsIn_wide.1 (AnyZI.keys_in Tryz.keys169 Fence.wide 5 trivial rfl mb W)
theorem isorted2_raw (b nn:Nat) (D0:DataW Unit) (R:Value→Option (DataW Unit×List MemPlace)) (w:World) (hown:w.ownsMap Tryz.prog 3 R b nn D0) (hmax:Maps.size D0≤maxLen) (hbytes:Maps.size D0*8≤140737488355328) :
 Calls Tryz.prog 133 #[.func (.func 236) #[] #[.pointer (some ⟨w.heap.size,0,none⟩)]] (w.alloc (.cells #[.map (some b)] 115)) fun e w'=>∃(v:Value) (ss:List Int),e = .returned v∧ss.Perm (intKeys D0) ∧
  w'.ownsRow (w.alloc (.cells #[.map (some b)] 115)).heap.size 3 1 v ss.length ((ss.mergeSort (fun x y=>decide (x≤y))).map encZ)∧(v = .slice none 0 0↔ss=[])∧Below (w.alloc (.cells #[.map (some b)] 115)).heap.size (w.alloc (.cells #[.map (some b)] 115)) w':=by
 have hbl:=hown.lt
 have hseq:SeqGives Fence.wide 2 Tryz.prog 236 #[.pointer (some ⟨w.heap.size,0,none⟩)] encZ (fun ss=>ss.Perm (intKeys D0)) (Maps.size D0) (w.alloc (.cells #[.map (some b)] 115)):=
  AnyZI.keys_gives (ρ:=Tryz.keys169_ren) { Tryz.keys169 with } Fence.wide _ trivial rfl (by omega) w.heap.size b nn D0 _ (by simp) (by simp) (by
   obtain⟨es,clock,hb,Ft,hs,hD⟩:=hown
   exact⟨es,clock,(Below.heap_alloc _ _ b hbl).trans hb,Ft,hs,hD⟩)
 exact callsIn_wide.1 (AnyZI.sorted_in Tryz.sorted133 Fence.wide 5 trivial trivial trivial trivial rfl (by omega) (isort_in _) (enters_of Tryz.func193 (by kernel_rfl) rfl) 236 #[.pointer (some ⟨w.heap.size,0,none⟩)] trivial (enters_of Tryz.func236 (by kernel_rfl) rfl) _ _ hmax hbytes _ hseq)
theorem isorted2_any {α:Type} {enc:α→Value} {w:World} {m:Nat} {l:List (Int×α)} (hm:IM.MapAt enc w m l) (hs:∀x∈l,(Lit.int .i64 x.1).wf=true) (hl:l.length≤1000000) :
 Calls Tryz.prog 133 #[.func (.func 236) #[] #[.pointer (some ⟨w.heap.size,0,none⟩)]] (w.alloc (.cells #[.map (some m)] 115)) fun e w'=>∃v,e = .returned v∧OwnR 3 1 (fun n:Int=>[Value.int .i64 n]) (w.heap.size+1) w' v ((l.map (·.1)).mergeSort (fun x y=>decide (x≤y))) ∧
  Below (w.alloc (.cells #[.map (some m)] 115)).heap.size (w.alloc (.cells #[.map (some m)] 115)) w':=by
 obtain⟨D,h1,h2,h3⟩:=owns_ints Tryz.underlying3 hm hs hl
 refine(isorted2_raw m l.length D keyR w h1 (by rw[h3]; exact Nat.le_trans hl (by decide)) (by rw[h3]; omega)).mono ?_
 rintro e w' ⟨v,ss,rfl,hp,ho,_,hb⟩
 have hp2:ss.Perm (l.map (·.1)):=hp.trans h2
 have he:ss.mergeSort (fun x y=>decide (x≤y))=(l.map (·.1)).mergeSort (fun x y=>decide (x≤y)):=by
  refine List.Perm.eq_of_pairwise (le:=fun a b=>a≤b) (fun a b _ _ h1 h2=>Int.le_antisymm h1 h2) ?_ ?_ ?_
  ·exact(List.pairwise_mergeSort (le:=fun x y:Int=>decide (x≤y)) (fun a b c h1 h2=>decide_eq_true (Int.le_trans (of_decide_eq_true h1) (of_decide_eq_true h2))) (fun a b=>by rcases Int.le_total a b with h | h <;> simp[h]) ss).imp of_decide_eq_true
  ·exact(List.pairwise_mergeSort (le:=fun x y:Int=>decide (x≤y)) (fun a b c h1 h2=>decide_eq_true (Int.le_trans (of_decide_eq_true h1) (of_decide_eq_true h2))) (fun a b=>by rcases Int.le_total a b with h | h <;> simp[h]) _).imp of_decide_eq_true
  ·exact(List.mergeSort_perm _ _).trans (hp2.trans (List.mergeSort_perm _ _).symm)
 have hlen:ss.length=((l.map (·.1)).mergeSort (fun x y=>decide (x≤y))).length:=by rw[hp2.length_eq,List.length_mergeSort]
 rw[he,hlen] at ho
 have hsz:(w.alloc (.cells #[.map (some m)] 115)).heap.size=w.heap.size+1:=by simp
 rw[hsz] at ho
 refine⟨v,rfl,?_,hb⟩
 unfold OwnR
 have hf:∀L:List Int,L.flatMap (fun n:Int=>[Value.int .i64 n])=L.map encZ:=fun L=>by
  induction L with
  | nil=>rfl
  | cons x r ih=>rw[List.flatMap_cons,ih]; rfl
 rw[hf]
 exact ho
end Go.Proofs.YtgofmnhfajmbfaaGreatDoor
