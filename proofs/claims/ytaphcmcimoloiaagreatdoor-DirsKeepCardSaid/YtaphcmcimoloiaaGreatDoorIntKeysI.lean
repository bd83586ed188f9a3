/-
 What simplifies the slots behind a step.
-/
import Derived.Shelf.SlIterI.Nil
import Derived.Test.YtaphcmcimoloiaaGreatDoorSidA
set_option maxHeartbeats 1000000
namespace Go.Proofs.YtaphcmcimoloiaaGreatDoor
open Go
theorem ps0:(∀{α:Type} (l:List α) (i:Nat) (a:α),l.toArray.setIfInBounds i a=(l.set i a).toArray)∧(∀{α:Type} (x:α) (xs:List α) (a:α),(x :: xs).set 0 a=a :: xs)∧(∀{α:Type} (x:α) (xs:List α) (n:Nat) (a:α),(x :: xs).set (n+1) a=x :: xs.set n a) ∧
 (∀{α:Type} (xs:List α) (i:Nat) (h:i<xs.toArray.size),xs.toArray[i]=xs[i]'(by simpa using h))∧(∀{α:Type} (x:α) (xs:List α) (h:0<(x :: xs).length),(x :: xs)[0]=x)∧(∀{α:Type} (x:α) (xs:List α) (i:Nat) (h:i+1<(x :: xs).length),(x :: xs)[i+1]=xs[i]'(Nat.lt_of_succ_lt_succ h)):=
 ⟨fun l i a=>by simp,fun _ _ _=>rfl,fun _ _ _ _=>rfl,fun _ _ _=>by simp,fun _ _ _=>rfl,fun _ _ _ _=>rfl⟩
theorem gg0:(∀{α:Type} (xs:List α) (i:Nat) (h:i<xs.toArray.size),xs.toArray[i]=xs[i]'(by simpa using h))∧(∀{α:Type} (x:α) (xs:List α) (h:0<(x :: xs).length),(x :: xs)[0]=x)∧(∀{α:Type} (x:α) (xs:List α) (i:Nat) (h:i+1<(x :: xs).length),(x :: xs)[i+1]=xs[i]'(Nat.lt_of_succ_lt_succ h)):=
 ⟨fun _ _ _=>by simp,fun _ _ _=>rfl,fun _ _ _ _=>rfl⟩
end Go.Proofs.YtaphcmcimoloiaaGreatDoor
namespace Go.Proofs
open Go.Shelf
def Tryz.sorted167_ren:Go.Shelf.Ren:=⟨fun | 6=>167 | 8=>230 | 9=>227 | 11=>287 | 13=>188 | 12=>285 | 23=>254 | 24=>255 | 14=>318 | 15=>319 | 16=>320 | 17=>321 | 18=>322 | 19=>323 | 20=>324 | 21=>325 | 22=>326 | 25=>335 | 26=>295 | 27=>296 | 28=>336 | 29=>337 | 30=>215 | 31=>341 | n=>n,fun | 26=>3 | 28=>263 | 24=>48 | 0=>0 | 3=>3 | 37=>290 | 48=>338 | 50=>340 | 4=>4 | 40=>332 | 39=>331 | 45=>298 | 5=>5 | 9=>9 | 51=>368 | 55=>372 | 57=>392 | 58=>393 | 33=>237 | n=>n,fun | n=>n⟩
theorem Tryz.sorted167:Go.Proofs.SlLaysZI.n6 Tryz.prog Tryz.sorted167_ren:={
 mixed:=by kernel_rfl
 f6:=⟨Tryz.f167.name,by decide,Tryz.func167.trans (congrArg some (by kernel_rfl))⟩
 f8:=⟨Tryz.f230.name,by decide,Tryz.func230.trans (congrArg some (by kernel_rfl))⟩
 f11:=⟨Tryz.f287.name,by decide,Tryz.func287.trans (congrArg some (by kernel_rfl))⟩
 t0:=Tryz.underlying0
 a0:=Tryz.isAgg0
 z0:=Tryz.sizeOf0
 v0:=Tryz.zeroValue0
 t24:=Tryz.underlying48
 a24:=Tryz.isAgg48
 z24:=Tryz.sizeOf48
 v24:=Tryz.zeroValue48
 t26:=Tryz.underlying3
 a26:=Tryz.isAgg3
 z26:=Tryz.sizeOf3
 v26:=Tryz.zeroValue3
 t28:=Tryz.underlying263
 a28:=Tryz.isAgg263
 z28:=Tryz.sizeOf263
 v28:=Tryz.zeroValue263
 i26:=by kernel_rfl }
def Tryz.keys168_ren:Go.Shelf.Ren:=⟨fun | 7=>168 | 10=>231 | n=>n,fun | 23=>199 | 26=>3 | 3=>4 | 28=>263 | 0=>0 | 27=>262 | 33=>237 | 4=>4 | n=>n,fun | n=>n⟩
theorem Tryz.keys168:Go.Proofs.SlLaysZI.n7 Tryz.prog Tryz.keys168_ren:={
 mixed:=by kernel_rfl
 f7:=⟨Tryz.f168.name,by decide,Tryz.func168.trans (congrArg some (by kernel_rfl))⟩
 f10:=⟨Tryz.f231.name,by decide,Tryz.func231.trans (congrArg some (by kernel_rfl))⟩
 t0:=Tryz.underlying0
 a0:=Tryz.isAgg0
 z0:=Tryz.sizeOf0
 v0:=Tryz.zeroValue0
 t4:=Tryz.underlying4
 a4:=Tryz.isAgg4
 z4:=Tryz.sizeOf4
 v4:=Tryz.zeroValue4
 t23:=Tryz.underlying199
 a23:=Tryz.isAgg199
 z23:=Tryz.sizeOf199
 v23:=Tryz.zeroValue199
 t26:=Tryz.underlying3
 a26:=Tryz.isAgg3
 z26:=Tryz.sizeOf3
 v26:=Tryz.zeroValue3
 t27:=Tryz.underlying262
 a27:=Tryz.isAgg262
 z27:=Tryz.sizeOf262
 v27:=Tryz.zeroValue262
 t28:=Tryz.underlying263
 a28:=Tryz.isAgg263
 z28:=Tryz.sizeOf263
 v28:=Tryz.zeroValue263
 t33:=Tryz.underlying237
 a33:=Tryz.isAgg237
 z33:=Tryz.sizeOf237
 v33:=Tryz.zeroValue237 }
def Tryz.keys192_ren:Go.Shelf.Ren:=⟨fun | 7=>192 | 10=>259 | n=>n,fun | 23=>101 | 26=>3 | 3=>3 | 28=>263 | 0=>0 | 27=>262 | 33=>237 | 4=>4 | n=>n,fun | n=>n⟩
theorem Tryz.keys192:Go.Proofs.SlLaysZI.n7 Tryz.prog Tryz.keys192_ren:={
 mixed:=by kernel_rfl
 f7:=⟨Tryz.f192.name,by decide,Tryz.func192.trans (congrArg some (by kernel_rfl))⟩
 f10:=⟨Tryz.f259.name,by decide,Tryz.func259.trans (congrArg some (by kernel_rfl))⟩
 t0:=Tryz.underlying0
 a0:=Tryz.isAgg0
 z0:=Tryz.sizeOf0
 v0:=Tryz.zeroValue0
 t4:=Tryz.underlying4
 a4:=Tryz.isAgg4
 z4:=Tryz.sizeOf4
 v4:=Tryz.zeroValue4
 t23:=Tryz.underlying101
 a23:=Tryz.isAgg101
 z23:=Tryz.sizeOf101
 v23:=Tryz.zeroValue101
 t26:=Tryz.underlying3
 a26:=Tryz.isAgg3
 z26:=Tryz.sizeOf3
 v26:=Tryz.zeroValue3
 t27:=Tryz.underlying262
 a27:=Tryz.isAgg262
 z27:=Tryz.sizeOf262
 v27:=Tryz.zeroValue262
 t28:=Tryz.underlying263
 a28:=Tryz.isAgg263
 z28:=Tryz.sizeOf263
 v28:=Tryz.zeroValue263
 t33:=Tryz.underlying237
 a33:=Tryz.isAgg237
 z33:=Tryz.sizeOf237
 v33:=Tryz.zeroValue237 }
end Go.Proofs
namespace Go.Proofs.YtaphcmcimoloiaaGreatDoor
open Go Go.RowKit Go.Maps Go.Sort Go.Shelf Go.WideMaps Go.WideShapes
def keyR:Value→Option (DataW Unit×List MemPlace):=fun _=>some (.nil,[])
theorem ients_data {α:Type} {enc:α→Value} {P:Program} {k:TypeId} (hks:P.underlying k=some (.int .i64)) {es:List MapEntry} {l:List (Int×α)} (h:es.map (fun e=>(e.key,e.val))=l.map (IM.encE enc)) (hs:∀x∈l,(Lit.int .i64 x.1).wf=true) :
 (∀x∈es,∃y,WideElems.rd P k keyR x=some y)∧(es.map (WideElems.rg P k keyR)).map (fun p=>Go.intOf p.1)=l.map (·.1):=by
 induction es generalizing l with
 | nil=>
   cases l with
   | nil=>exact⟨fun x hx=>absurd hx (by simp),rfl⟩
   | cons y r=>simp at h
 | cons e es ih=>
   cases l with
   | nil=>simp at h
   | cons y r=>
     rw[List.map_cons,List.map_cons] at h
     injection h with h1 h2
     obtain⟨g1,g2⟩:=ih h2 (fun x hx=>hs x (List.mem_cons_of_mem _ hx))
     have hkey:e.key = .int .i64 y.1:=congrArg (·.1) h1
     have hrd:WideElems.rd P k keyR e=some (.int .i64 y.1,.nil):=by
      unfold WideElems.rd
      rw[hkey,keyOf_int_mk hks (hs y (by simp))]
      rfl
     refine⟨?_,?_⟩
     ·intro x hx
      rcases List.mem_cons.1 hx with rfl | hx
      ·exact⟨_,hrd⟩
      ·exact g1 x hx
     ·rw[List.map_cons,List.map_cons,List.map_cons,WideElems.rg_of hrd,g2]
      rfl
theorem owns_ints {α:Type} {enc:α→Value} {P:Program} {k:TypeId} (hks:P.underlying k=some (.int .i64)) {w:World} {m:Nat} {l:List (Int×α)} (hm:IM.MapAt enc w m l) (hs:∀x∈l,(Lit.int .i64 x.1).wf=true) (hl:l.length≤1000000) :
 ∃D:DataW Unit,w.ownsMap P k keyR m l.length D∧(intKeys D).Perm (l.map (·.1))∧Maps.size D=l.length:=by
 obtain⟨o,ho,es,clock,rfl,hst,hen⟩:=hm
 have hsz:=IM.ents_len hen
 obtain⟨h1,h2⟩:=ients_data hks hen hs
 refine⟨_,⟨es,clock,ho,⟨by rw[hsz]; exact Nat.le_trans hl (by decide),hst,h1⟩,Nat.le_of_eq hsz,rfl⟩,?_,?_⟩
 ·show(((es.toList.map (WideElems.rg P k keyR)).foldr DataW.insert []).map fun p=>Go.intOf p.1).Perm _
  rw[←h2]
  exact(sorted_perm _).map _
 ·show((es.toList.map (WideElems.rg P k keyR)).foldr DataW.insert []).length=_
  rw[(sorted_perm _).length_eq,List.length_map,Array.length_toList,hsz]
theorem isort_in (m:Nat):AnyZI.SortsIn Tryz.prog Tryz.sorted167_ren Fence.wide m:=
 ⟨fun blk off cap ss W hH hblk hsz=>callsIn_wide.2 (Tryz.slices_Sort_int blk off cap ss W hH hblk hsz),
  fun p cap W=>callsIn_wide.2 (Tryz.slices_Sort_int_none p cap W)⟩
theorem ikeys_any (mb:Option Nat) (W:World):Calls Tryz.prog 168 #[.map mb] W fun e w'=>e = .returned (.func (.func 231) #[] #[.pointer (some ⟨W.heap.size,0,none⟩)])∧w' = W.alloc (.cells #[.map mb] 199):=
 callsIn_wide.1 (AnyZI.keys_in Tryz.keys168 Fence.wide 5 trivial rfl mb W)
theorem isorted_raw (b nn:Nat) (D0:DataW Unit) (R:Value→Option (DataW Unit×List MemPlace)) (w:World) (hown:w.ownsMap Tryz.prog 3 R b nn D0) (hmax:Maps.size D0≤maxLen) (hbytes:Maps.size D0*8≤140737488355328) :
 Calls Tryz.prog 167 #[.func (.func 231) #[] #[.pointer (some ⟨w.heap.size,0,none⟩)]] (w.alloc (.cells #[.map (some b)] 199)) fun e w'=>∃(v:Value) (ss:List Int),e = .returned v∧ss.Perm (intKeys D0) ∧
  w'.ownsRow (w.alloc (.cells #[.map (some b)] 199)).heap.size 3 1 v ss.length ((ss.mergeSort (fun x y=>decide (x≤y))).map encZ)∧(v = .slice none 0 0↔ss=[])∧Below (w.alloc (.cells #[.map (some b)] 199)).heap.size (w.alloc (.cells #[.map (some b)] 199)) w':=by
 have hbl:=hown.lt
 have hseq:SeqGives Fence.wide 2 Tryz.prog 231 #[.pointer (some ⟨w.heap.size,0,none⟩)] encZ (fun ss=>ss.Perm (intKeys D0)) (Maps.size D0) (w.alloc (.cells #[.map (some b)] 199)):=
  AnyZI.keys_gives (ρ:=Tryz.keys168_ren) { Tryz.keys168 with } Fence.wide _ trivial rfl (by omega) w.heap.size b nn D0 _ (by simp) (by simp) (by
   obtain⟨es,clock,hb,Ft,hs,hD⟩:=hown
   exact⟨es,clock,(Below.heap_alloc _ _ b hbl).trans hb,Ft,hs,hD⟩)
 exact callsIn_wide.1 (AnyZI.sorted_in Tryz.sorted167 Fence.wide 5 trivial trivial trivial trivial rfl (by omega) (isort_in _) (enters_of Tryz.func227 (by kernel_rfl) rfl) 231 #[.pointer (some ⟨w.heap.size,0,none⟩)] trivial (enters_of Tryz.func231 (by kernel_rfl) rfl) _ _ hmax hbytes _ hseq)
theorem isorted_any {α:Type} {enc:α→Value} {w:World} {m:Nat} {l:List (Int×α)} (hm:IM.MapAt enc w m l) (hs:∀x∈l,(Lit.int .i64 x.1).wf=true) (hl:l.length≤1000000) :
 Calls Tryz.prog 167 #[.func (.func 231) #[] #[.pointer (some ⟨w.heap.size,0,none⟩)]] (w.alloc (.cells #[.map (some m)] 199)) fun e w'=>∃v,e = .returned v∧OwnR 3 1 (fun n:Int=>[Value.int .i64 n]) (w.heap.size+1) w' v ((l.map (·.1)).mergeSort (fun x y=>decide (x≤y))) ∧
  Below (w.alloc (.cells #[.map (some m)] 199)).heap.size (w.alloc (.cells #[.map (some m)] 199)) w':=by
 obtain⟨D,h1,h2,h3⟩:=owns_ints Tryz.underlying3 hm hs hl
 refine(isorted_raw m l.length D keyR w h1 (by rw[h3]; exact Nat.le_trans hl (by decide)) (by rw[h3]; omega)).mono ?_
 rintro e w' ⟨v,ss,rfl,hp,ho,_,hb⟩
 have hp2:ss.Perm (l.map (·.1)):=hp.trans h2
 have he:ss.mergeSort (fun x y=>decide (x≤y))=(l.map (·.1)).mergeSort (fun x y=>decide (x≤y)):=by
  refine List.Perm.eq_of_pairwise (le:=fun a b=>a≤b) (fun a b _ _ h1 h2=>Int.le_antisymm h1 h2) ?_ ?_ ?_
  ·exact(List.pairwise_mergeSort (le:=fun x y:Int=>decide (x≤y)) (fun a b c h1 h2=>decide_eq_true (Int.le_trans (of_decide_eq_true h1) (of_decide_eq_true h2))) (fun a b=>by rcases Int.le_total a b with h | h <;> simp[h]) ss).imp of_decide_eq_true
  ·exact(List.pairwise_mergeSort (le:=fun x y:Int=>decide (x≤y)) (fun a b c h1 h2=>decide_eq_true (Int.le_trans (of_decide_eq_true h1) (of_decide_eq_true h2))) (fun a b=>by rcases Int.le_total a b with h | h <;> simp[h]) _).imp of_decide_eq_true
  ·exact(List.mergeSort_perm _ _).trans (hp2.trans (List.mergeSort_perm _ _).symm)
 have hlen:ss.length=((l.map (·.1)).mergeSort (fun x y=>decide (x≤y))).length:=by rw[hp2.length_eq,List.length_mergeSort]
 rw[he,hlen] at ho
 have hsz:(w.alloc (.cells #[.map (some m)] 199)).heap.size=w.heap.size+1:=by simp
 rw[hsz] at ho
 refine⟨v,rfl,?_,hb⟩
 unfold OwnR
 have hf:∀L:List Int,L.flatMap (fun n:Int=>[Value.int .i64 n])=L.map encZ:=fun L=>by
  induction L with
  | nil=>rfl
  | cons x r ih=>rw[List.flatMap_cons,ih]; rfl
 rw[hf]
 exact ho
theorem ikeys2_any (mb:Option Nat) (W:World):Calls Tryz.prog 192 #[.map mb] W fun e w'=>e = .returned (.func (.func 259) #[] #[.pointer (some ⟨W.heap.size,0,none⟩)])∧w' = W.alloc (.cells #[.map mb] 101):=
 callsIn_wide.1 (AnyZI.keys_in Tryz.keys192 Fence.wide 5 trivial rfl mb W)
theorem isorted2_raw (b nn:Nat) (D0:DataW Unit) (R:Value→Option (DataW Unit×List MemPlace)) (w:World) (hown:w.ownsMap Tryz.prog 3 R b nn D0) (hmax:Maps.size D0≤maxLen) (hbytes:Maps.size D0*8≤140737488355328) :
 Calls Tryz.prog 167 #[.func (.func 259) #[] #[.pointer (some ⟨w.heap.size,0,none⟩)]] (w.alloc (.cells #[.map (some b)] 101)) fun e w'=>∃(v:Value) (ss:List Int),e = .returned v∧ss.Perm (intKeys D0) ∧
  w'.ownsRow (w.alloc (.cells #[.map (some b)] 101)).heap.size 3 1 v ss.length ((ss.mergeSort (fun x y=>decide (x≤y))).map encZ)∧(v = .slice none 0 0↔ss=[])∧Below (w.alloc (.cells #[.map (some b)] 101)).heap.size (w.alloc (.cells #[.map (some b)] 101)) w':=by
 have hbl:=hown.lt
 have hseq:SeqGives Fence.wide 2 Tryz.prog 259 #[.pointer (some ⟨w.heap.size,0,none⟩)] encZ (fun ss=>ss.Perm (intKeys D0)) (Maps.size D0) (w.alloc (.cells #[.map (some b)] 101)):=
  AnyZI.keys_gives (ρ:=Tryz.keys192_ren) { Tryz.keys192 with } Fence.wide _ trivial rfl (by omega) w.heap.size b nn D0 _ (by simp) (by simp) (by
   obtain⟨es,clock,hb,Ft,hs,hD⟩:=hown
   exact⟨es,clock,(Below.heap_alloc _ _ b hbl).trans hb,Ft,hs,hD⟩)
 exact callsIn_wide.1 (AnyZI.sorted_in Tryz.sorted167 Fence.wide 5 trivial trivial trivial trivial rfl (by omega) (isort_in _) (enters_of Tryz.func227 (by kernel_rfl) rfl) 259 #[.pointer (some ⟨w.heap.size,0,none⟩)] trivial (enters_of Tryz.func259 (by kernel_rfl) rfl) _ _ hmax hbytes _ hseq)
theorem isorted2_any {α:Type} {enc:α→Value} {w:World} {m:Nat} {l:List (Int×α)} (hm:IM.MapAt enc w m l) (hs:∀x∈l,(Lit.int .i64 x.1).wf=true) (hl:l.length≤1000000) :
 Calls Tryz.prog 167 #[.func (.func 259) #[] #[.pointer (some ⟨w.heap.size,0,none⟩)]] (w.alloc (.cells #[.map (some m)] 101)) fun e w'=>∃v,e = .returned v∧OwnR 3 1 (fun n:Int=>[Value.int .i64 n]) (w.heap.size+1) w' v ((l.map (·.1)).mergeSort (fun x y=>decide (x≤y))) ∧
  Below (w.alloc (.cells #[.map (some m)] 101)).heap.size (w.alloc (.cells #[.map (some m)] 101)) w':=by
 obtain⟨D,h1,h2,h3⟩:=owns_ints Tryz.underlying3 hm hs hl
 refine(isorted2_raw m l.length D keyR w h1 (by rw[h3]; exact Nat.le_trans hl (by decide)) (by rw[h3]; omega)).mono ?_
 rintro e w' ⟨v,ss,rfl,hp,ho,_,hb⟩
 have hp2:ss.Perm (l.map (·.1)):=hp.trans h2
 have he:ss.mergeSort (fun x y=>decide (x≤y))=(l.map (·.1)).mergeSort (fun x y=>decide (x≤y)):=by
  refine List.Perm.eq_of_pairwise (le:=fun a b=>a≤b) (fun a b _ _ h1 h2=>Int.le_antisymm h1 h2) ?_ ?_ ?_
  ·exact(List.pairwise_mergeSort (le:=fun x y:Int=>decide (x≤y)) (fun a b c h1 h2=>decide_eq_true (Int.le_trans (of_decide_eq_true h1) (of_decide_eq_true h2))) (fun a b=>by rcases Int.le_total a b with h | h <;> simp[h]) ss).imp of_decide_eq_true
  ·exact(List.pairwise_mergeSort (le:=fun x y:Int=>decide (x≤y)) (fun a b c h1 h2=>decide_eq_true (Int.le_trans (of_decide_eq_true h1) (of_decide_eq_true h2))) (fun a b=>by rcases Int.le_total a b with h | h <;> simp[h]) _).imp of_decide_eq_true
  ·exact(List.mergeSort_perm _ _).trans (hp2.trans (List.mergeSort_perm _ _).symm)
 have hlen:ss.length=((l.map (·.1)).mergeSort (fun x y=>decide (x≤y))).length:=by rw[hp2.length_eq,List.length_mergeSort]
 rw[he,hlen] at ho
 have hsz:(w.alloc (.cells #[.map (some m)] 101)).heap.size=w.heap.size+1:=by simp
 rw[hsz] at ho
 refine⟨v,rfl,?_,hb⟩
 unfold OwnR
 have hf:∀L:List Int,L.flatMap (fun n:Int=>[Value.int .i64 n])=L.map encZ:=fun L=>by
  induction L with
  | nil=>rfl
  | cons x r ih=>rw[List.flatMap_cons,ih]; rfl
 rw[hf]
 exact ho
end Go.Proofs.YtaphcmcimoloiaaGreatDoor
