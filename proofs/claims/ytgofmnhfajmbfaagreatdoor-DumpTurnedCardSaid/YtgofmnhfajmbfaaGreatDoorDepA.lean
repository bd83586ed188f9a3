import Derived.Test.YtgofmnhfajmbfaaGreatDoorSidA
import Derived.Test.YtgofmnhfajmbfaaGreatDoorInodeA
set_option maxHeartbeats 4000000
namespace Go.Proofs.YtgofmnhfajmbfaaGreatDoor
open Go Go.RowKit Txt Sp
section
end
end Go.Proofs.YtgofmnhfajmbfaaGreatDoor
namespace Go.Proofs.YtgofmnhfajmbfaaGreatDoor
open Go
section
variable {P:Program} (w:World)
theorem run_append_src (t ty:TypeId) (base:Nat) (e:TypeId) (i:TypeInfo) (z:Value) (size bytes:Nat) (ht:P.underlying t=some (.slice e)) (hi:P.info? e=some i) (hz:i.zero=some z)
 (hsize:i.size=size) (hby:i.bytes=bytes) (hzs:z.cells.size=size) (hsz:0<size)
 (g n cap:Nat) (xs:List Value) (hown:w.ownsRow base e size (.slice (some ⟨g,0,none⟩) n cap) n xs)
 (ad:Option Addr) (m c:Nat) (hnil:ad=none→m=0∧c=0) (news:List Value) (hl:news.length=m*size) (hnews:∀a,ad=some a→∀j u,news[j]? = some u→w.cell? (a.add j)=some u) (h1:∀u∈news,u.oneCell' = true)
 (h63:n+m≤maxLen) (hbytes:(n+m)*bytes≤140737488355328) (hbase:base≤w.heap.size) :
 ∃g' cap' w',(Builtin.append_ #[t,t] ty #[.slice (some ⟨g,0,none⟩) n cap,.slice ad m c]).run P w = .ok (.slice (some ⟨g',0,none⟩) (n+m) cap') w' ∧
  w'.ownsRow base e size (.slice (some ⟨g',0,none⟩) (n+m) cap') (n+m) (xs ++ news)∧w.grownBy w' (some g)∧(g' = g∨g' = w.heap.size):=by
 cases ad with
 | none=>
   obtain⟨rfl,rfl⟩:=hnil rfl
   obtain rfl:news=[]:=List.eq_nil_of_length_eq_zero (by simpa using hl)
   rw[List.append_nil,Nat.add_zero]
   exact⟨g,cap,w,run_append_owned_none (P:=P) (w:=w) base t ty e i size ht hi _ n xs hown,hown,⟨rfl,rfl,rfl,Nat.le_refl _,fun _ _ _=>rfl⟩,Or.inl rfl⟩
 | some a=>
   obtain⟨v',w',hr,h2,h3,h4,h5⟩:=run_append_own_at (P:=P) w base t ty e i z size bytes ht hi hz hsize hby hzs hsz _ n xs hown a m c news hl (hnews a rfl) h1 h63 hbytes hbase
   rcases h2.2 with ⟨hv,_⟩ | ⟨g',cap',cur,rfl,h6⟩
   ·have:=(h4.1 hv).1
    cases this
   ·refine⟨g',cap',w',hr,h2,h3,?_⟩
    rcases h5 with h5 | h5
    ·exact Or.inl (by simpa [Value.ownBlock] using h5)
    ·exact Or.inr (by simpa [Value.ownBlock] using h5)
theorem wpList_append_src {ops:Array Oper} {rest:List Oper} {o:Oper} {a:Act} {Q:Exit→Act→World→Prop} (hgd:o.guard=none) (s x:Operand) (t:TypeId)
 (ho:o.op = .call { callee:=.builtin .append,args:=#[s,x],argTypes:=#[t,t] })
 (base:Nat) (e:TypeId) (i:TypeInfo) (z:Value) (size bytes:Nat) (ht:P.underlying t=some (.slice e)) (hi:P.info? e=some i) (hz:i.zero=some z)
 (hsize:i.size=size) (hby:i.bytes=bytes) (hzs:z.cells.size=size) (hsz:0<size)
 (g n cap:Nat) (xs:List Value) (hs:a.eval s = .slice (some ⟨g,0,none⟩) n cap) (hown:w.ownsRow base e size (.slice (some ⟨g,0,none⟩) n cap) n xs)
 (ad:Option Addr) (m c:Nat) (hx:a.eval x = .slice ad m c) (hnil:ad=none→m=0∧c=0) (news:List Value) (hl:news.length=m*size) (hnews:∀a,ad=some a→∀j u,news[j]? = some u→w.cell? (a.add j)=some u) (h1:∀u∈news,u.oneCell' = true)
 (h63:n+m≤maxLen) (hbytes:(n+m)*bytes≤140737488355328) (hbase:base≤w.heap.size)
 (h:∀g' cap' w',w'.ownsRow base e size (.slice (some ⟨g',0,none⟩) (n+m) cap') (n+m) (xs ++ news)→w.grownBy w' (some g)→(g' = g∨g' = w.heap.size)→wpList P ops Q rest (a.put o.dst (.slice (some ⟨g',0,none⟩) (n+m) cap')) w') :
 wpList P ops Q (o :: rest) a w:=by
 refine wpList_plain hgd fun K hK=>?_
 obtain⟨g',cap',w',hr,h2,h3,h4⟩:=run_append_src (P:=P) w t o.type base e i z size bytes ht hi hz hsize hby hzs hsz g n cap xs hown ad m c hnil news hl hnews h1 h63 hbytes hbase
 unfold Oper.wp execOp
 simp only[ho,resolve,invoke,builtin,Sem.run_bind,Sem.run_pure,Result.andThen_ok,List.map_toArray,List.map_cons,List.map_nil,hs,hx,hr]
 exact hK _ _ (h g' cap' w' h2 h3 h4)
end
end Go.Proofs.YtgofmnhfajmbfaaGreatDoor
namespace Go.Proofs.YtgofmnhfajmbfaaGreatDoor
open Go Go.RowKit Txt Sp
section
variable {P:Program} (w:World)
theorem run_append_rows (t ty:TypeId) (base base':Nat) (e:TypeId) (i:TypeInfo) (z:Value) (size bytes:Nat) (ht:P.underlying t=some (.slice e)) (hi:P.info? e=some i) (hz:i.zero=some z)
 (hsize:i.size=size) (hby:i.bytes=bytes) (hzs:z.cells.size=size) (hsz:0<size) (v u:Value) (n m:Nat) (xs ys:List Value) (hown:w.ownsRow base e size v n xs) (hsrc:w.ownsRow base' e size u m ys)
 (h1:∀u∈ys,u.oneCell' = true) (h63:n+m≤maxLen) (hbytes:(n+m)*bytes≤140737488355328) (hbase:base≤w.heap.size) :
 ∃v' w',(Builtin.append_ #[t,t] ty #[v,u]).run P w = .ok v' w'∧w'.ownsRow base e size v' (n+m) (xs ++ ys)∧w.grownBy w' v.ownBlock:=by
 obtain⟨hy,⟨rfl,rfl⟩ | ⟨g,cap,cur,rfl,hg,hh,hnc,hm,hcs,htk⟩⟩:=hsrc
 ·obtain rfl:ys=[]:=List.eq_nil_of_length_eq_zero (by simpa using hy)
  rw[List.append_nil,Nat.add_zero]
  exact⟨v,w,run_append_owned_none (P:=P) (w:=w) base t ty e i size ht hi v n xs hown,hown,⟨rfl,rfl,rfl,Nat.le_refl _,fun _ _ _=>rfl⟩⟩
 ·obtain⟨v',w',hr,h2,h3,_⟩:=run_append_own_at (P:=P) w base t ty e i z size bytes ht hi hz hsize hby hzs hsz v n xs hown ⟨g,0,none⟩ m cap ys hy (fun j x hx=>by
   rw[show(⟨g,0,none⟩:Addr).add j=⟨g,j,none⟩ by unfold Addr.add; split <;> simp_all]
   rw[←htk] at hx
   have hj:=(List.getElem?_eq_some_iff.1 hx).1
   rw[List.length_take] at hj
   rw[List.getElem?_take_of_lt (by omega)] at hx
   refine cellOf hh ?_
   simpa using hx) h1 h63 hbytes hbase
  exact⟨v',w',hr,h2,h3⟩
theorem wpList_append_rows {ops:Array Oper} {rest:List Oper} {o:Oper} {a:Act} {Q:Exit→Act→World→Prop} (hgd:o.guard=none) (s x:Operand) (t:TypeId)
 (ho:o.op = .call { callee:=.builtin .append,args:=#[s,x],argTypes:=#[t,t] })
 (base base':Nat) (e:TypeId) (i:TypeInfo) (z:Value) (size bytes:Nat) (ht:P.underlying t=some (.slice e)) (hi:P.info? e=some i) (hz:i.zero=some z)
 (hsize:i.size=size) (hby:i.bytes=bytes) (hzs:z.cells.size=size) (hsz:0<size) (v u:Value) (n m:Nat) (xs ys:List Value) (hs:a.eval s=v) (hown:w.ownsRow base e size v n xs) (hx:a.eval x=u) (hsrc:w.ownsRow base' e size u m ys)
 (h1:∀u∈ys,u.oneCell' = true) (h63:n+m≤maxLen) (hbytes:(n+m)*bytes≤140737488355328) (hbase:base≤w.heap.size)
 (h:∀v' w',w'.ownsRow base e size v' (n+m) (xs ++ ys)→w.grownBy w' v.ownBlock→wpList P ops Q rest (a.put o.dst v') w') :
 wpList P ops Q (o :: rest) a w:=by
 refine wpList_plain hgd fun K hK=>?_
 obtain⟨v',w',hr,h2,h3⟩:=run_append_rows (P:=P) w t o.type base base' e i z size bytes ht hi hz hsize hby hzs hsz v u n m xs ys hown hsrc h1 h63 hbytes hbase
 unfold Oper.wp execOp
 simp only[ho,resolve,invoke,builtin,Sem.run_bind,Sem.run_pure,Result.andThen_ok,List.map_toArray,List.map_cons,List.map_nil,hs,hx,hr]
 exact hK _ _ (h v' w' h2 h3)
end
theorem intC_map (l:List Int):l.flatMap intC=l.map (Value.int .i64):=by
 induction l with
 | nil=>rfl
 | cons x r ih=>rw[List.flatMap_cons,ih]; rfl
section
section
end
end
section
end
section
end
