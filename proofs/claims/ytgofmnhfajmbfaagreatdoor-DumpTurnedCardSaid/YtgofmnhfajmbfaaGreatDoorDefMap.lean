import Derived.Test.YtgofmnhfajmbfaaGreatDoorSidA
namespace Go.Proofs.YtgofmnhfajmbfaaGreatDoor
open Go Go.RowKit Txt
def defV (x:Int×Int):Value:=.agg #[.int .i64 x.1,.int .i64 x.2]
def encD (x:Int×Int):Value×Value:=(defV x,.bool true)
def q153z (o:Obj) (l:List (Int×Int)):Prop:=∃es clock,o = .map es clock∧MapKept.Stamped es clock∧es.toList.map (fun e=>(e.key,e.val))=l.map encD
def q59z (w:World) (m:Nat) (l:List (Int×Int)):Prop:=∃o,w.heap[m]? = some o∧q153z o l
theorem q153z.new:q153z (.map #[] 0) []:=⟨#[],0,rfl,MapKept.stamped_empty 0,rfl⟩
theorem q59z.lt {w:World} {m:Nat} {l:List (Int×Int)} (h:q59z w m l):m<w.heap.size:=let ⟨_,ho,_⟩:=h; (Array.getElem?_eq_some_iff.1 ho).1
theorem q59z.old {w w':World} {m:Nat} {l:List (Int×Int)} (h:q59z w m l) (hs:w'.heap[m]? = w.heap[m]?):q59z w' m l:=let ⟨o,ho,hm⟩:=h; ⟨o,hs.trans ho,hm⟩
theorem defV_inj {x y:Int×Int} (h:defV x=defV y):x=y:=by
 obtain⟨a,b⟩:=x
 obtain⟨c,d⟩:=y
 unfold defV at h
 simp at h
 rw[h.1,h.2]
theorem ents_defs {es:Array MapEntry} {l:List (Int×Int)} (h:es.toList.map (fun e=>(e.key,e.val))=l.map encD):es.toList.map (·.key)=l.map defV:=by
 have:=congrArg (List.map Prod.fst) h
 rw[List.map_map,List.map_map] at this
 exact this
theorem def_part0 (w:World) (x y:Int):(part 3 #[.int .i64 x,.int .i64 y] 0).run Tryz.prog w = .ok (.int .i64 x) w:=by kernel_rfl
theorem def_part1 (w:World) (x y:Int):(part 3 #[.int .i64 x,.int .i64 y] 1).run Tryz.prog w = .ok (.int .i64 y) w:=by kernel_rfl
set_option maxHeartbeats 2000000 in
theorem equal_def (w:World) (x y:Int×Int):(Op.equal 132 (defV x) (defV y)).run Tryz.prog w = .ok (decide (x=y)) w:=by
 obtain⟨a,b⟩:=x
 obtain⟨c,d⟩:=y
 have hu:=Tryz.underlying132
 have hi:=Tryz.underlying3
 have h:∀n:Nat,(Op.equalIn (n+2) 132 (defV (a,b)) (defV (c,d))).run Tryz.prog w = .ok (decide ((a,b)=(c,d))) w:=fun n=>by
  unfold defV
  have p0:=fun x y=>def_part0 w x y
  have p1:=fun x y=>def_part1 w x y
  by_cases h1:a=c
  ·by_cases h2:b=d
   ·simp[Op.equalIn,run_underlying hu,run_underlying hi,Result.andThen,p0,p1,h1,h2]
   ·simp[Op.equalIn,run_underlying hu,run_underlying hi,Result.andThen,p0,p1,h1,h2]
  ·simp[Op.equalIn,run_underlying hu,run_underlying hi,Result.andThen,p0,h1]
 simp[Op.equal,Op.maxDepth,h 9998]
theorem check_def (w:World) (e:Bool) (n:Nat) (x:Int×Int):(Instr.checkKey e (n+2) 132 (defV x)).run Tryz.prog w = .ok () w:=by
 have hu:=Tryz.underlying132
 have hi:=Tryz.underlying3
 have p0:=fun x y=>def_part0 w x y
 have p1:=fun x y=>def_part1 w x y
 unfold defV
 simp[Instr.checkKey,run_underlying hu,run_underlying hi,Result.andThen,p0,p1]
theorem asking_def {w:World} (k:Int×Int):∀(es:List MapEntry) (l:List (Int×Int)) (i:Nat),es.map (fun e=>(e.key,e.val))=l.map encD →
 ∃r,(Instr.findAsking 132 (defV k) es i).run Tryz.prog w = .ok r w∧((r=none∧k∉l)∨∃j,l[j]? = some k∧r=some (i+j,.bool true))
 | [],l,i,he=>by
   cases l with
   | nil=>exact⟨none,by simp[Instr.findAsking],Or.inl ⟨rfl,by simp⟩⟩
   | cons y r=>simp at he
 | e :: es,[],i,he=>by simp at he
 | e :: es,y :: l,i,he=>by
   rw[List.map_cons,List.map_cons] at he
   injection he with h1 h2
   have hk:e.key=defV y:=congrArg (·.1) h1
   have hv:e.val = .bool true:=congrArg (·.2) h1
   have heq:=equal_def w k y
   by_cases h:k=y
   ·rw[decide_eq_true h] at heq
    exact⟨some (i,e.val),by simp[Instr.findAsking,hk,heq,Result.andThen],Or.inr ⟨0,by rw[h]; rfl,by rw[hv]; rfl⟩⟩
   ·rw[decide_eq_false h] at heq
    obtain⟨r,hr,hg⟩:=asking_def (w:=w) k es l (i+1) h2
    refine⟨r,by simp[Instr.findAsking,hk,heq,Result.andThen,hr],?_⟩
    rcases hg with ⟨rfl,hg⟩ | ⟨j,hj,rfl⟩
    ·exact Or.inl ⟨rfl,by simp[h,hg]⟩
    ·exact Or.inr ⟨j+1,hj,by rw[Nat.add_assoc,Nat.add_comm 1 j]⟩
theorem find_def {w:World} (k:Int×Int) {es:List MapEntry} {l:List (Int×Int)} (he:es.map (fun e=>(e.key,e.val))=l.map encD) :
 ∃r,(Instr.findKey 132 (defV k) es).run Tryz.prog w = .ok r w∧((r=none∧k∉l)∨∃j,l[j]? = some k∧r=some (j,.bool true)):=by
 have hu:=Tryz.underlying132
 cases es with
 | nil=>
   cases l with
   | nil=>exact⟨none,by simp[Instr.findKey,run_underlying hu,Instr.findNow,Result.andThen],Or.inl ⟨rfl,by simp⟩⟩
   | cons y r=>simp at he
 | cons e es=>
   obtain⟨r,hr,hg⟩:=asking_def (w:=w) k (e :: es) l 0 he
   refine⟨r,?_,?_⟩
   ·have hn:∀fs,Instr.findNow (.struct fs) (defV k) (e :: es) 0=none:=fun fs=>by
     unfold Instr.findNow
     have:Instr.sameNow (.struct fs) (defV k) e.key=none:=by unfold Instr.sameNow defV; rfl
     rw[this]
    simp[Instr.findKey,run_underlying hu,hn,Result.andThen,hr]
   ·rcases hg with hg | ⟨j,hj,e⟩
    ·exact Or.inl hg
    ·exact Or.inr ⟨j,hj,by rw[e,Nat.zero_add]⟩
theorem ht_dmap:Tryz.prog.underlying 136=some (.map 132 4):=by kernel_rfl
theorem stays_def (w:World) (k:Int×Int):(Instr.keyThatStays (defV k) (defV k)).run Tryz.prog w = .ok (defV k) w:=by
 unfold defV
 simp[Instr.keyThatStays,Instr.sameBits]
theorem run_update_def {w:World} {m:Nat} {l:List (Int×Int)} (h:q59z w m l) (k:Int×Int) :
 ∃o',(Instr.mapUpdate 136 (.map (some m)) (defV k) (.bool true)).run Tryz.prog w = .ok () (ChangeMaps.setBlock w m o')∧q153z o' (if k∈l then l else l ++ [k]):=by
 obtain⟨o,hb,es,clock,rfl,hst,hen⟩:=h
 obtain⟨r,hr,hg⟩:=find_def (w:=w) k hen
 have hc:=fun e=>check_def w e 9998 k
 rcases hg with ⟨rfl,hk⟩ | ⟨j,hj,rfl⟩
 ·rw[if_neg hk]
  refine⟨.map (es.push { key:=defV k,val:=.bool true,born:=clock }) (clock+1),?_,_,_,rfl,MapKept.stamped_push hst (fun x hx e=>hk ?_),?_⟩
  ·simp[Instr.mapUpdate,run_underlying ht_dmap,MapKept.run_getObj_map hb,hc,hr,MapKept.run_setObj_map _ hb,Result.andThen,ChangeMaps.setBlock]
  ·have:defV k∈l.map defV:=by rw[←ents_defs hen,←e]; exact List.mem_map.2 ⟨x,hx,rfl⟩
   obtain⟨y,hy,e2⟩:=List.mem_map.1 this
   rw[←defV_inj e2]
   exact hy
  ·rw[Array.toList_push,List.map_append,List.map_append,hen]
   rfl
 ·rw[if_pos (List.mem_of_getElem? hj)]
  obtain⟨e0,he0,hk0,hv0⟩:∃e,es.toList[j]? = some e∧e.key=defV k∧e.val = .bool true:=by
   have h1:(es.toList.map (fun e=>(e.key,e.val)))[j]? = some (encD k):=by rw[hen,List.getElem?_map,hj]; rfl
   rw[List.getElem?_map] at h1
   obtain⟨e,he,e1⟩:=Option.map_eq_some_iff.1 h1
   exact⟨e,he,congrArg Prod.fst e1,congrArg Prod.snd e1⟩
  have hj':es[j]? = some e0:=by simpa using he0
  have hfix:∀e',es[j]? = some e'→({ e' with key:=defV k,val:=.bool true }:MapEntry)=e':=fun e' he'=>by
   rw[hj'] at he'
   cases he'
   rw[←hk0,←hv0]
  have hsame:(es.modify j (fun e'=>{ e' with key:=defV k,val:=.bool true })).toList=es.toList:=by
   rw[Array.toList_modify,ChangeMaps.modify_eq_set _ _ _ _ he0,hfix e0 hj']
   exact List.ext_getElem? (fun i=>by
    rw[List.getElem?_set]
    split
    ·rename_i h; subst h; rw[if_pos (List.getElem?_eq_some_iff.1 he0).1,he0]
    ·rfl)
  refine⟨.map (es.modify j (fun e'=>{ e' with key:=defV k,val:=.bool true })) clock,?_,_,_,rfl,MapKept.stamped_modify hst _ _ (fun _ _=>rfl) (fun e' _ he'=>congrArg MapEntry.key (hfix e' he')),?_⟩
  ·simp[Instr.mapUpdate,run_underlying ht_dmap,MapKept.run_getObj_map hb,hc,hr,hj',hk0,stays_def,MapKept.run_setObj_map _ hb,Result.andThen,ChangeMaps.setBlock]
  ·rw[hsame]
   exact hen
