import Derived.Test.YtgofmnhfajmbfaaGreatDoorSpH
import Derived.Test.YtgofmnhfajmbfaaGreatDoorMapsB
namespace Go.Proofs.YtgofmnhfajmbfaaGreatDoor
open Go Go.RowKit Txt
/-- Nothing below a world's end has turned but at places of K. -/
structure Turn (K:Nat→Prop) (w w':World):Prop where
 os:w'.os=w.os
 tape:w'.tape=w.tape
 output:w'.output=w.output
 size:w.heap.size≤w'.heap.size
 block:∀k,k<w.heap.size→¬K k→w'.heap[k]? = w.heap[k]?
theorem Turn.of_below {K:Nat→Prop} {w w':World} (h:Below w.heap.size w w'):Turn K w w':=⟨h.os,h.tape,h.output,h.size,fun k hk _=>h.block k hk⟩
theorem Turn.refl (K:Nat→Prop) (w:World):Turn K w w:=Turn.of_below (Below.refl _ _)
theorem Turn.trans {K K1 K2:Nat→Prop} {a b c:World} (h:Turn K1 a b) (g:Turn K2 b c) (h1:∀k,k<a.heap.size→K1 k→K k) (h2:∀k,k<a.heap.size→K2 k→K k):Turn K a c:=
 ⟨g.os.trans h.os,g.tape.trans h.tape,g.output.trans h.output,Nat.le_trans h.size g.size,fun k hk hn=>(g.block k (Nat.lt_of_lt_of_le hk h.size) (fun e=>hn (h2 k hk e))).trans (h.block k hk (fun e=>hn (h1 k hk e)))⟩
theorem Turn.mono {K K':Nat→Prop} {a b:World} (h:Turn K a b) (hk:∀k,k<a.heap.size→K k→K' k):Turn K' a b:=
 ⟨h.os,h.tape,h.output,h.size,fun k hk' hn=>h.block k hk' (fun e=>hn (hk k hk' e))⟩
theorem Turn.below {K:Nat→Prop} {a b:World} {n:Nat} (h:Turn K a b) (hk:∀k,K k→n≤k) (hn:n≤a.heap.size):Below n a b:=
 ⟨h.os,h.tape,h.output,h.size,fun k hk'=>h.block k (by omega) (fun e=>by have:=hk k e; omega)⟩
theorem Turn.heap {K:Nat→Prop} {a b:World} (h:Turn K a b) {k:Nat} {o:Obj} (ho:a.heap[k]? = some o) (hk:¬K k):b.heap[k]? = some o:=by
 rw[h.block k (Array.getElem?_eq_some_iff.1 ho).1 hk]; exact ho
end Go.Proofs.YtgofmnhfajmbfaaGreatDoor
namespace Go.Proofs.YtgofmnhfajmbfaaGreatDoor.IM
open Go Go.RowKit Txt
section
variable {α:Type}
def getM (l:List (Int×α)) (s:Int):Option α:=(l.find? (fun x=>decide (x.1=s))).map (·.2)
def setM (l:List (Int×α)) (s:Int) (b:α):List (Int×α):=if(getM l s).isSome then l.map (fun x=>if x.1=s then(s,b) else x) else l ++ [(s,b)]
def encE (enc:α→Value) (x:Int×α):Value×Value:=(.int .i64 x.1,enc x.2)
def IsMap (enc:α→Value) (o:Obj) (l:List (Int×α)):Prop:=
 ∃es clock,o = .map es clock∧MapKept.Stamped es clock∧es.toList.map (fun e=>(e.key,e.val))=l.map (encE enc)
def MapAt (enc:α→Value) (w:World) (m:Nat) (l:List (Int×α)):Prop:=∃o,w.heap[m]? = some o∧IsMap enc o l
theorem IsMap.new {enc:α→Value}:IsMap enc (.map #[] 0) []:=⟨#[],0,rfl,MapKept.stamped_empty 0,rfl⟩
end
section
variable {α:Type} {enc:α→Value} {es:Array MapEntry} {l:List (Int×α)}
theorem ents_key (h:es.toList.map (fun e=>(e.key,e.val))=l.map (encE enc)):∀x∈es.toList,MapKept.IsKey (.int .i64) x.key:=by
 intro x hx
 have:(x.key,x.val)∈l.map (encE enc):=by rw[←h]; exact List.mem_map.2 ⟨x,hx,rfl⟩
 obtain⟨y,_,e⟩:=List.mem_map.1 this
 have:=(Prod.mk.inj e).1
 rw[←this]
 rfl
theorem ents_at (h:es.toList.map (fun e=>(e.key,e.val))=l.map (encE enc)) {j:Nat} {e:MapEntry} (he:es.toList[j]? = some e):∃x,l[j]? = some x∧e.key = .int .i64 x.1∧e.val=enc x.2:=by
 have h1:(es.toList.map (fun e=>(e.key,e.val)))[j]? = some (e.key,e.val):=by rw[List.getElem?_map,he]; rfl
 rw[h,List.getElem?_map] at h1
 obtain⟨x,hx,e1⟩:=Option.map_eq_some_iff.1 h1
 exact⟨x,hx,(Prod.mk.inj e1).1.symm,(Prod.mk.inj e1).2.symm⟩
theorem ents_keys (h:es.toList.map (fun e=>(e.key,e.val))=l.map (encE enc)):es.toList.map (·.key)=l.map (fun x=>Value.int .i64 x.1):=by
 have:=congrArg (List.map Prod.fst) h
 rw[List.map_map,List.map_map] at this
 exact this
theorem nodup_of_map {β γ:Type} (f:β→γ):∀{l:List β},(l.map f).Nodup→l.Nodup
 | [],_=>by simp
 | x :: r,h=>by
   rw[List.map_cons,List.nodup_cons] at h
   rw[List.nodup_cons]
   exact⟨fun hm=>h.1 (List.mem_map.2 ⟨x,hm,rfl⟩),nodup_of_map f h.2⟩
theorem keys_nodup (h:es.toList.map (fun e=>(e.key,e.val))=l.map (encE enc)) {clock:Nat} (hs:MapKept.Stamped es clock):(l.map (·.1)).Nodup:=by
 have h1:=hs.2.2
 rw[ents_keys h] at h1
 have:l.map (fun x=>Value.int .i64 x.1)=(l.map (·.1)).map (Value.int .i64):=by rw[List.map_map]; rfl
 rw[this] at h1
 exact nodup_of_map _ h1
theorem getM_at (hn:(l.map (·.1)).Nodup) {j:Nat} {x:Int×α} (hx:l[j]? = some x):getM l x.1=some x.2:=by
 induction l generalizing j with
 | nil=>simp at hx
 | cons y r ih=>
   rw[List.map_cons,List.nodup_cons] at hn
   unfold getM
   rw[List.find?_cons]
   cases j with
   | zero=>
     simp at hx
     subst hx
     simp
   | succ j=>
     have hxr:r[j]? = some x:=by simpa using hx
     have hne:y.1≠x.1:=fun e=>hn.1 (by rw[e]; exact List.mem_map.2 ⟨x,List.mem_of_getElem? hxr,rfl⟩)
     rw[decide_eq_false hne]
     exact ih hn.2 hxr
theorem getM_none {s:Int} (h:∀x∈l,x.1≠s):getM l s=none:=by
 unfold getM
 rw[List.find?_eq_none.2 (fun x hx=>by simp[h x hx])]
 rfl
theorem find_at (h:es.toList.map (fun e=>(e.key,e.val))=l.map (encE enc)) {s:Int} (h2:∀x∈es.toList,x.key≠.int .i64 s):∀x∈l,x.1≠s:=fun x hx e=>by
 obtain⟨j,hj⟩:=List.getElem?_of_mem hx
 have h4:(es.toList.map (·.key))[j]? = some (.int .i64 s):=by rw[ents_keys h,List.getElem?_map,hj,←e]; rfl
 rw[List.getElem?_map] at h4
 obtain⟨y,hy,e2⟩:=Option.map_eq_some_iff.1 h4
 exact h2 y (List.mem_of_getElem? hy) e2
end
section
variable {α:Type} {enc:α→Value} {P:Program} {w:World} {T K E:TypeId} {m:Nat} {l:List (Int×α)}
theorem run_lookup (ht:P.underlying T=some (.map K E)) (hk:P.underlying K=some (.int .i64)) {z:Value} (hz:(zeroValue E).run P w = .ok z w) (h:MapAt enc w m l) (s:Int) :
 (Instr.lookup T (.map (some m)) (.int .i64 s) false).run P w = .ok ((getM l s).elim z enc) w:=by
 obtain⟨o,hb,es,clock,rfl,hst,hen⟩:=h
 have hkey:MapKept.IsKey (.int .i64) (.int .i64 s):=rfl
 have hn:=keys_nodup hen hst
 rcases MapKept.findNow_spec hkey es.toList 0 (ents_key hen) with ⟨h1,h2⟩ | ⟨j,e0,h1,h2,h3⟩
 ·rw[getM_none (find_at hen h2)]
  simp[Instr.lookup,run_underlying ht,MapKept.run_getObj_map hb,MapKept.run_checkKey hk hkey,MapKept.run_findKey hk h1,hz,Result.andThen]
 ·obtain⟨x,hx,e1,e2⟩:=ents_at hen h2
  rw[h3] at e1
  have es1:s=x.1:=by injection e1
  have:=getM_at hn hx
  rw[←es1] at this
  rw[this]
  simp[Instr.lookup,run_underlying ht,MapKept.run_getObj_map hb,MapKept.run_checkKey hk hkey,MapKept.run_findKey hk h1,Result.andThen,e2]
theorem run_lookup2 (ht:P.underlying T=some (.map K E)) (hk:P.underlying K=some (.int .i64)) {z:Value} (hz:(zeroValue E).run P w = .ok z w) (h:MapAt enc w m l) (s:Int) :
 (Instr.lookup T (.map (some m)) (.int .i64 s) true).run P w = .ok (.tuple #[(getM l s).elim z enc,.bool (getM l s).isSome]) w:=by
 obtain⟨o,hb,es,clock,rfl,hst,hen⟩:=h
 have hkey:MapKept.IsKey (.int .i64) (.int .i64 s):=rfl
 have hn:=keys_nodup hen hst
 rcases MapKept.findNow_spec hkey es.toList 0 (ents_key hen) with ⟨h1,h2⟩ | ⟨j,e0,h1,h2,h3⟩
 ·rw[getM_none (find_at hen h2)]
  simp[Instr.lookup,run_underlying ht,MapKept.run_getObj_map hb,MapKept.run_checkKey hk hkey,MapKept.run_findKey hk h1,hz,Result.andThen]
 ·obtain⟨x,hx,e1,e2⟩:=ents_at hen h2
  rw[h3] at e1
  have es1:s=x.1:=by injection e1
  have:=getM_at hn hx
  rw[←es1] at this
  rw[this]
  simp[Instr.lookup,run_underlying ht,MapKept.run_getObj_map hb,MapKept.run_checkKey hk hkey,MapKept.run_findKey hk h1,Result.andThen,e2]
theorem list_set_ents {j:Nat} {es:List MapEntry} {l:List (Int×α)} (h:es.map (fun e=>(e.key,e.val))=l.map (encE enc)) {x:Int×α} (hx:l[j]? = some x) (hn:(l.map (·.1)).Nodup) (e':MapEntry) {s:Int} {b:α} (hs:s=x.1) (h1:e'.key = .int .i64 s) (h2:e'.val=enc b) :
 (es.set j e').map (fun e=>(e.key,e.val))=(l.map (fun y=>if y.1=s then(s,b) else y)).map (encE enc):=by
 rw[List.map_set,h,h1,h2]
 apply List.ext_getElem?
 intro i
 rw[List.getElem?_set,List.getElem?_map,List.getElem?_map,List.getElem?_map]
 by_cases hij:j=i
 ·subst hij
  have hl:=(List.getElem?_eq_some_iff.1 hx).1
  rw[if_pos rfl,if_pos (by simpa using hl),hx]
  simp[hs,encE]
 ·rw[if_neg hij]
  cases hy:l[i]? with
  | none=>rfl
  | some y=>
    have hne:y.1≠s:=by
     intro e
     have a1:(l.map (·.1))[j]? = some s:=by rw[List.getElem?_map,hx,hs]; rfl
     have a2:(l.map (·.1))[i]? = some s:=by rw[List.getElem?_map,hy,←e]; rfl
     exact hij ((List.getElem?_inj (List.getElem?_eq_some_iff.1 a1).1 hn).1 (a1.trans a2.symm))
    simp[hne]
theorem run_update (ht:P.underlying T=some (.map K E)) (hk:P.underlying K=some (.int .i64)) (h:MapAt enc w m l) (s:Int) (b:α) :
 ∃o',(Instr.mapUpdate T (.map (some m)) (.int .i64 s) (enc b)).run P w = .ok () (ChangeMaps.setBlock w m o')∧IsMap enc o' (setM l s b):=by
 obtain⟨o,hb,es,clock,rfl,hst,hen⟩:=h
 have hkey:MapKept.IsKey (.int .i64) (.int .i64 s):=rfl
 have hn:=keys_nodup hen hst
 rcases MapKept.findNow_spec hkey es.toList 0 (ents_key hen) with ⟨h1,h2⟩ | ⟨j,e0,h1,h2,h3⟩
 ·refine⟨.map (es.push ⟨.int .i64 s,enc b,clock⟩) (clock+1),?_,_,_,rfl,MapKept.stamped_push hst h2,?_⟩
  ·simp[Instr.mapUpdate,run_underlying ht,MapKept.run_getObj_map hb,MapKept.run_checkKey hk hkey,MapKept.run_findKey hk h1,MapKept.run_setObj_map _ hb,Result.andThen,ChangeMaps.setBlock]
  ·unfold setM
   rw[getM_none (find_at hen h2)]
   simp[hen,encE]
 ·obtain⟨x,hx,e1,e2⟩:=ents_at hen h2
  rw[h3] at e1
  have es1:s=x.1:=by injection e1
  have hget:=getM_at hn hx
  rw[←es1] at hget
  have hj:es[j]? = some e0:=by simpa using h2
  have hkeyf:∀e',es[j]? = some e'→({ e' with key:=.int .i64 s,val:=enc b }:MapEntry).key=e'.key:=fun e' he'=>by rw[hj] at he'; cases he'; exact h3.symm
  refine⟨.map (es.modify j (fun e'=>{ e' with key:=.int .i64 s,val:=enc b })) clock,?_,_,_,rfl,MapKept.stamped_modify hst _ _ (fun _ _=>rfl) (fun e' _ he'=>hkeyf e' he'),?_⟩
  ·simp[Instr.mapUpdate,run_underlying ht,MapKept.run_getObj_map hb,MapKept.run_checkKey hk hkey,MapKept.run_findKey hk h1,hj,h3,MapKept.run_keyThatStays hkey,MapKept.run_setObj_map _ hb,Result.andThen,ChangeMaps.setBlock]
  ·unfold setM
   rw[hget]
   simp only[Option.isSome_some,if_true]
   rw[Array.toList_modify,ChangeMaps.modify_eq_set _ _ _ _ h2]
   exact list_set_ents hen hx hn _ es1 rfl rfl
theorem MapAt.lt (h:MapAt enc w m l):m<w.heap.size:=by
 obtain⟨o,h,_⟩:=h
 exact(Array.getElem?_eq_some_iff.1 h).1
theorem MapAt.old {w':World} (h:MapAt enc w m l) (hs:w'.heap[m]? = w.heap[m]?):MapAt enc w' m l:=by
 obtain⟨o,h,h2⟩:=h
 exact⟨o,hs.trans h,h2⟩
theorem MapAt.nodup (h:MapAt enc w m l):(l.map (·.1)).Nodup:=by
 obtain⟨o,h,es,clock,_,hst,hen⟩:=h
 exact keys_nodup hen hst
theorem heap_setBlock_at {o:Obj} (h:m<w.heap.size):(ChangeMaps.setBlock w m o).heap[m]? = some o:=by simp[ChangeMaps.setBlock,h]
theorem heap_setBlock_ne {o:Obj} {k:Nat} (h:k≠m):(ChangeMaps.setBlock w m o).heap[k]? = w.heap[k]?:=by simp[ChangeMaps.setBlock,Ne.symm h]
theorem size_setBlock (w:World) (m:Nat) (o:Obj):(ChangeMaps.setBlock w m o).heap.size=w.heap.size:=by simp[ChangeMaps.setBlock]
end
section
variable {α:Type}
theorem getM_set (l:List (Int×α)) (s:Int) (b:α) (r:Int):getM (setM l s b) r=if r=s then some b else getM l r:=by
 unfold setM
 cases hs:getM l s with
 | none=>
   simp only[Option.isSome_none,Bool.false_eq_true,if_false]
   unfold getM at hs ⊢
   rw[List.find?_append]
   by_cases h:r=s
   ·subst h
    rw[if_pos rfl]
    cases hf:l.find? (fun x=>decide (x.1=r)) with
    | none=>simp
    | some y=>rw[hf] at hs; cases hs
   ·rw[if_neg h]
    cases hf:l.find? (fun x=>decide (x.1=r)) with
    | none=>simp[Ne.symm h]
    | some y=>simp
 | some c=>
   simp only[Option.isSome_some,if_true]
   obtain⟨y,hy,rfl⟩:=Option.map_eq_some_iff.1 hs
   have hy1:y.1=s:=of_decide_eq_true (List.find?_some (p:=fun x:Int×α=>decide (x.1=s)) hy)
   unfold getM
   rw[List.find?_map]
   by_cases h:r=s
   ·subst h
    rw[if_pos rfl]
    have e:((fun x:Int×α=>decide (x.1=r)) ∘ fun x=>if x.1=r then(r,b) else x)=fun x=>decide (x.1=r):=by
     funext x
     simp only[Function.comp_apply]
     by_cases hx:x.1=r <;> simp[hx]
    rw[e,hy]
    simp[hy1]
   ·rw[if_neg h]
    have e:((fun x:Int×α=>decide (x.1=r)) ∘ fun x=>if x.1=s then(s,b) else x)=fun x=>decide (x.1=r):=by
     funext x
     simp only[Function.comp_apply]
     by_cases hx:x.1=s
     ·simp[hx]
     ·simp[hx]
    rw[e]
    cases hf:l.find? (fun x=>decide (x.1=r)) with
    | none=>rfl
    | some z=>
      have hz1:z.1=r:=of_decide_eq_true (List.find?_some (p:=fun x:Int×α=>decide (x.1=r)) hf)
      have:z.1≠s:=by rw[hz1]; exact h
      simp[this]
theorem length_setM {l:List (Int×α)} {s:Int} {b:α}:(setM l s b).length=if(getM l s).isSome then l.length else l.length+1:=by
 unfold setM
 split <;> simp
end
end Go.Proofs.YtgofmnhfajmbfaaGreatDoor.IM
namespace Go.Proofs.YtgofmnhfajmbfaaGreatDoor
open Go Go.RowKit Txt Sp
def OwnR {α:Type} (e:TypeId) (size:Nat) (f:α→List Value) (base:Nat) (w:World) (v:Value) (l:List α):Prop:=w.ownsRow base e size v l.length (l.flatMap f)
section
variable {α:Type} {e:TypeId} {size:Nat} {f:α→List Value}
theorem OwnR.void (base:Nat) (w:World):OwnR e size f base w (.slice none 0 0) []:=⟨by simp,Or.inl ⟨rfl,rfl⟩⟩
theorem OwnR.below {n:Nat} {w w':World} {v:Value} {l:List α} (h:OwnR e size f n w v l) (hb:Below w.heap.size w w'):OwnR e size f n w' v l:=by
 obtain⟨h1,h2⟩:=h
 refine⟨h1,h2.imp_right ?_⟩
 rintro⟨g,cap,cur,hv,hg,hh,h3⟩
 exact⟨g,cap,cur,hv,hg,q1z hb hh,h3⟩
theorem OwnR.form {n:Nat} {w:World} {v:Value} {l:List α} (h:OwnR e size f n w v l):∃ad cap,v = .slice ad l.length cap:=by
 obtain⟨_,⟨rfl,h0⟩ | ⟨g,cap,cur,rfl,_⟩⟩:=h
 ·exact⟨none,0,by rw[h0]⟩
 ·exact⟨_,_,rfl⟩
theorem OwnR.mono {n m:Nat} {w:World} {v:Value} {l:List α} (h:OwnR e size f n w v l) (hm:m≤n):OwnR e size f m w v l:=by
 obtain⟨h1,h2⟩:=h
 refine⟨h1,h2.imp_right ?_⟩
 rintro⟨g,cap,cur,hv,hg,h3⟩
 exact⟨g,cap,cur,hv,by omega,h3⟩
theorem OwnR.block {base b:Nat} {w:World} {l:List α} {cs:Array Value} (h:w.heap[b]? = some (.cells cs e (0,0))) (hc:cs.toList=l.flatMap f) (hl:cs.size=l.length*size) (hb:base≤b) (hm:l.length≤maxLen):OwnR e size f base w (.slice (some ⟨b,0,none⟩) l.length l.length) l:=by
 refine⟨by rw[←hc,Array.length_toList,hl],Or.inr ⟨b,l.length,cs,rfl,hb,h,Nat.le_refl _,hm,hl,?_⟩⟩
 rw[←hc,List.take_of_length_le (by rw[Array.length_toList,hl]; exact Nat.le_refl _)]
theorem OwnR.snoc {base:Nat} {w:World} {l:List α} {v:Value} {x:α} {cs:List Value} {n:Nat} (h:w.ownsRow base e size v n (l.flatMap f ++ cs)) (hx:f x=cs) (hn:n=l.length+1):OwnR e size f base w v (l ++ [x]):=by
 subst hn
 unfold OwnR
 rw[List.length_append,List.flatMap_append,List.flatMap_cons,List.flatMap_nil,List.append_nil,hx]
 exact h
theorem OwnR.row {base:Nat} {w:World} {l:List α} {v:Value} (hf:∀x∈l,(f x).length=size) (h:OwnR e size f base w v l):RowAt w v size (l.map f):=
 RowAt.own (base:=base) (e:=e) (fun x hx=>by
  obtain⟨y,hy,rfl⟩:=List.mem_map.1 hx
  exact hf y hy) (by
  rw[List.length_map,List.flatten_eq_flatMap,List.flatMap_map]
  exact h)
end
def pt (b:Nat):Value:=.pointer (some ⟨b,0,none⟩)
def intC (n:Int):List Value:=[.int .i64 n]
def intV (n:Int):Value:=.int .i64 n
section
variable {α:Type} {e:TypeId} {size:Nat} {f:α→List Value} {base:Nat} {w w':World} {v:Value} {l:List α} {D D':Nat→Prop}
theorem OwnR.turn (h:OwnR e size f base w v l) (hT:Turn D w w') (hd:∀k,v.ownBlock=some k→¬D k):OwnR e size f base w' v l:=by
 obtain⟨h1,h2⟩:=h
 refine⟨h1,h2.imp_right ?_⟩
 rintro⟨g,cap,cur,rfl,hg,hh,h3⟩
 exact⟨g,cap,cur,rfl,hg,hT.heap hh (hd g rfl),h3⟩
theorem OwnR.lt (h:OwnR e size f base w v l):∀k,v.ownBlock=some k→base≤k∧k<w.heap.size:=by
 rintro k hk
 obtain⟨_,⟨rfl,_⟩ | ⟨g,cap,cur,rfl,hg,hh,_⟩⟩:=h
 ·cases hk
 ·cases hk
  exact⟨hg,(Array.getElem?_eq_some_iff.1 hh).1⟩
end
section
variable {w w':World} {base B Bd:Nat} {D D' K:Nat→Prop}
end
section
end
section
set_option maxHeartbeats 2000000
end
