import Derived.Test.YtgofmnhfajmbfaaGreatDoorDepA
namespace Go.Proofs.YtgofmnhfajmbfaaGreatDoor
open Go
section
variable {P:Program} {ops:Array Oper} {Q:Exit→Act→World→Prop} {md:Region.Mode} {S:World→Prop} {T:Nat}
def AnyT (P:Program) (md:Region.Mode) (ops:Array Oper) (Q:Exit→Act→World→Prop) (S:World→Prop) (T:Nat):Nat→Array Bool→Act→World→Prop
 | 0,listed,a,w=>Region.ready md ops listed=[]∧Q .normal a w
 | fuel+1,listed,a,w=>
   (Region.ready md ops listed=[]→Q .normal a w) ∧
   ∀i∈Region.ready md ops listed,wpOp P ops Q i (fun a' w'=>(i≠T→S w')∧AnyT P md ops Q S T fuel (listed.setIfInBounds i true) a' w') a w
theorem AnyT.any:∀(fuel:Nat) (listed:Array Bool) (a:Act) (w:World),AnyT P md ops Q S T fuel listed a w→wpAny P md ops Q fuel listed a w
 | 0,_,_,_,h=>h
 | fuel+1,_,_,_,h=>⟨h.1,fun i hi=>wpOp_mono (fun a' w' h'=>AnyT.any fuel _ a' w' h'.2) (h.2 i hi)⟩
/-- t waits for i, through others or by itself. -/
inductive Reach (md:Region.Mode) (ops:Array Oper):Nat→Nat→Prop
 | one {t i:Nat} (h:Region.waitsFor md ops t i=true):Reach md ops t i
 | more {t x i:Nat} (h:Reach md ops t x) (h':Region.waitsFor md ops x i=true):Reach md ops t i
def q150z (md:Region.Mode) (ops:Array Oper):Nat→List Nat→List Nat
 | 0,s=>s
 | n+1,s=>q150z md ops n ((List.range ops.size).filter fun x=>s.contains x||s.any fun t=>Region.waitsFor md ops t x)
theorem reachL_reach {t:Nat}:∀(n:Nat) (s:List Nat),(∀x∈s,x=t∨Reach md ops t x)→∀x∈q150z md ops n s,x=t∨Reach md ops t x
 | 0,_,h=>h
 | n+1,s,h=>reachL_reach n _ (fun x hx=>by
   have h1:=(List.mem_filter.1 hx).2
   rcases Bool.or_eq_true _ _ ▸ h1 with h2 | h2
   ·exact h x (by simpa using h2)
   ·obtain⟨y,hy,h3⟩:=List.any_eq_true.1 h2
    rcases h y hy with rfl | h4
    ·exact Or.inr (.one h3)
    ·exact Or.inr (.more h4 h3))
def lastB (md:Region.Mode) (ops:Array Oper) (T:Nat):Bool:=(fun r:List Nat=>(List.range T).all r.contains) (q150z md ops ops.size [T])
theorem lastB_reach (h:lastB md ops T=true) {i:Nat} (hi:i<T):Reach md ops T i:=by
 have h1:=List.all_eq_true.1 (show(List.range T).all (q150z md ops ops.size [T]).contains=true from h) i (List.mem_range.2 hi)
 rcases reachL_reach (t:=T) ops.size [T] (fun x hx=>Or.inl (List.mem_singleton.1 hx)) i (by simpa using h1) with e | h
 ·omega
 ·exact h
def Closed (md:Region.Mode) (ops:Array Oper) (listed:Array Bool):Prop:=∀j oj,ops[j]? = some oj→listed.getD j false=true→∀e∈oj.after,Region.binds md e=true→listed.getD e.on false=true
theorem Closed.start (n:Nat):Closed md ops (Array.replicate n false):=fun j oj _ hl=>by rw[getD_replicate_false] at hl; cases hl
theorem Closed.set {listed:Array Bool} (h:Closed md ops listed) {i:Nat} (hi:i∈Region.ready md ops listed):Closed md ops (listed.setIfInBounds i true):=by
 obtain⟨_,oi,hoi,hall⟩:=mem_ready.1 hi
 have up:∀k,listed.getD k false=true→(listed.setIfInBounds i true).getD k false=true:=fun k hk=>by
  by_cases hik:i=k
  ·subst hik
   rcases Nat.lt_or_ge i listed.size with h' | h'
   ·simp[h']
   ·simp[Array.getElem?_eq_none h'] at hk
  ·rw[getD_set_ne false hik]; exact hk
 intro j oj hoj hl e he hb
 by_cases hij:i=j
 ·subst hij
  rw[hoi] at hoj
  cases hoj
  exact up _ (hall e he hb)
 ·rw[getD_set_ne false hij] at hl
  exact up _ (h j oj hoj hl e he hb)
theorem Closed.reach {listed:Array Bool} (h:Closed md ops listed) {t i:Nat} (hr:Reach md ops t i) (ht:∀oj,ops[t]? = some oj→∀e∈oj.after,Region.binds md e=true→listed.getD e.on false=true):listed.getD i false=true:=by
 induction hr with
 | one hw=>
   obtain⟨oj,hoj,e,he,hb,hon⟩:=Region.waitsFor_spec hw
   rw[←hon]
   exact ht oj hoj e he hb
 | more _ hw ih=>
   obtain⟨oj,hoj,e,he,hb,hon⟩:=Region.waitsFor_spec hw
   rw[←hon]
   exact h _ oj hoj ih e he hb
theorem AnyT.first {i:Nat} {oi:Oper} {v:Value} (hi:ops[i]? = some oi) (hT:Reach md ops T i) (hsel:∀(j:Nat) (o:Oper) cs b,ops[j]? = some o→o.op≠.select cs b)
 (hQ:∀c a w,Q (.panic c) (a.put oi.dst v) w→Q (.panic c) a w) :
 ∀(fuel:Nat) (listed:Array Bool) (a:Act) (w:World),
  (∀j oj,ops[j]? = some oj→j≠i→listed.getD j true=false→(∀e∈oj.after,Region.binds md e=true→e.on≠i)→oi.apart ops oj=true) →
  i∈Region.ready md ops listed→Closed md ops listed→YieldsIf P ops S oi v a→S w →
  AnyT P md ops Q S T fuel (listed.setIfInBounds i true) (a.put oi.dst v) w→AnyT P md ops Q S T (fuel+1) listed a w:=by
 have key:∀(listed:Array Bool) (j:Nat) (oj:Oper),ops[j]? = some oj→i∈Region.ready md ops listed→(∀e∈oj.after,Region.binds md e=true→listed.getD e.on false=true)→∀e∈oj.after,Region.binds md e=true→e.on≠i:=by
  intro listed j oj _ hr hall e he hb heq
  have h1:=hall e he hb
  have h0:=(mem_ready.1 hr).1
  rw[heq] at h1
  rcases Nat.lt_or_ge i listed.size with h' | h'
  ·simp[h'] at h0 h1
   rw[h0] at h1
   cases h1
  ·simp[Array.getElem?_eq_none h'] at h1
 intro fuel
 induction fuel with
 | zero=>
   intro listed a w _ hr _ hy hS H
   refine⟨fun h=>(by rw[h] at hr; cases hr),fun j hj=>?_⟩
   by_cases hji:j=i
   ·subst hji; exact hy.wpOp hi hS ⟨fun _=>hS,H⟩
   ·have:=ready_mono hj hji
    rw[H.1] at this
    cases this
 | succ fuel ih=>
   intro listed a w hfree hr hcl hy hS H
   refine⟨fun h=>(by rw[h] at hr; cases hr),fun j hj=>?_⟩
   by_cases hji:j=i
   ·subst hji; exact hy.wpOp hi hS ⟨fun _=>hS,H⟩
   ·have h1:=H.2 j (ready_mono hj hji)
    obtain⟨hjun,oj,hoj,hall⟩:=mem_ready.1 hj
    have hnot:=key listed j oj hoj hr hall
    have hjT:j≠T:=by
     rintro rfl
     have h1:=hcl.reach hT (fun o' ho'=>by rw[hoj] at ho'; cases ho'; exact hall)
     have h0:=(mem_ready.1 hr).1
     rcases Nat.lt_or_ge i listed.size with h' | h'
     ·simp[h'] at h0 h1
      rw[h0] at h1
      cases h1
     ·simp[Array.getElem?_eq_none h'] at h1
    have h2:=wpOp_putIf hoj (hfree j oj hoj hji hjun hnot) (fun cs b=>hsel i oi cs b hi) (fun cs b=>hsel j oj cs b hoj) hQ hy h1
    refine wpOp_mono (fun a' w' h3=>⟨h3.2.1,ih (listed.setIfInBounds j true) a' w' (fun k ok hk hki hun hno=>hfree k ok hk hki ?_ hno) (ready_mono hr (Ne.symm hji)) (hcl.set hj) h3.1 (h3.2.1 hjT) ?_⟩) h2
    ·by_cases hjk:j=k
     ·subst hjk; exact hjun
     ·rw[getD_set_ne true hjk] at hun; exact hun
    ·rw[Array.setIfInBounds_comm _ _ hji]
     exact h3.2.2
theorem AnyT.take {i:Nat} {oi:Oper} {v:Value} {fuel:Nat} {listed:Array Bool} {a:Act} {w:World} (hL:lastB md ops T=true) (hcl:Closed md ops listed) (hi:ops[i]? = some oi) (hiT:i<T)
 (hs:Region.noSelect ops=true) (hf:Region.free md ops listed i=true) (hr:(Region.ready md ops listed).contains i=true)
 (hQ:∀c a w,Q (.panic c) (a.put oi.dst v) w→Q (.panic c) a w) (hy:YieldsIf P ops S oi v a) (hS:S w)
 (h:Closed md ops (listed.setIfInBounds i true)→AnyT P md ops Q S T fuel (listed.setIfInBounds i true) (a.put oi.dst v) w):AnyT P md ops Q S T (fuel+1) listed a w:=
 AnyT.first hi (lastB_reach hL hiT) (Region.noSelect_spec hs) hQ fuel listed a w (Region.free_spec hi hf) (by simpa using hr) hcl hy hS (h (hcl.set (by simpa using hr)))
theorem tkT {oi:Oper} {v:Value} {fuel:Nat} {listed:Array Bool} {a:Act} {w:World} (i:Nat) (h:Closed md ops (listed.setIfInBounds i true)→AnyT P md ops Q S T fuel (listed.setIfInBounds i true) (a.put oi.dst v) w) (hi:ops[i]? = some oi:=by rfl) (hiT:i<T:=by decide) (hs:Region.noSelect ops=true:=by kernel_rfl) (hf:Region.free md ops listed i=true:=by kernel_rfl)
 (hr:(Region.ready md ops listed).contains i=true:=by kernel_rfl) (hw:Region.wanted oi (yielded ops a.tmps)=true:=by rfl) (hQ:∀c a w,Q (.panic c) (a.put oi.dst v) w→Q (.panic c) a w:=by exact fun _ _ _ h=>h) (hv:∀w,S w→(execOp a.eval oi).run P w = .ok (.value v) w:=by(intro w hSw; first | (go_simp; done) | (go_simp; with_reducible rfl)))
 (hS:S w:=by assumption) (hL:lastB md ops T=true:=by assumption) (hcl:Closed md ops listed:=by assumption):AnyT P md ops Q S T (fuel+1) listed a w:=
 AnyT.take hL hcl hi hiT hs hf hr hQ (Or.inl ⟨hw,hv⟩) hS h
theorem AnyT.one {i:Nat} {o:Oper} {fuel:Nat} {listed:Array Bool} {a:Act} {w:World} (hcl:Closed md ops listed) (hr:Region.ready md ops listed=[i]) (ho:ops[i]? = some o)
 (h:∀K':Act→World→Prop,Shut (∀a w,(i≠T→S w)→((i≠T→S w)→Closed md ops (listed.setIfInBounds i true)→AnyT P md ops Q S T fuel (listed.setIfInBounds i true) a w)→K' a w)→if Region.wanted o (yielded ops a.tmps)=true then Oper.wp P o a w K' Q else K' (a.put o.dst undef) w) :
 AnyT P md ops Q S T (fuel+1) listed a w:=
 ⟨fun h0=>absurd (hr ▸ h0) (by simp),hr ▸ fun j hj=>by
  rw[List.mem_singleton.1 hj]
  exact wpOp_step ho (fun K' hK=>h K' (fun a w hS hW=>hK a w ⟨hS,hW hS (hcl.set (by rw[hr]; exact List.mem_singleton.2 rfl))⟩))⟩
theorem AnyT.done {listed:Array Bool} {a:Act} {w:World} (hr:Region.ready md ops listed=[]) (h:Q .normal a w):∀fuel,AnyT P md ops Q S T fuel listed a w
 | 0=>⟨hr,h⟩
 | _+1=>⟨fun _=>h,by rw[hr]; simp⟩
theorem wp_region_tail {id:Nat} {a:Act} {w:World} (S:World→Prop) (T:Nat) (hm:P.follows .mixedOrders=true) (hL:lastB .any ops T=true) (hS:S w.drew)
 (h:S w.drew→lastB .any ops T=true→Closed .any ops (Array.replicate ops.size false)→AnyT P .any ops Q S T ops.size (Array.replicate ops.size false) a w.drew):(Code.region id ops true).wp P Q a w:=
 wp_region_any hm (AnyT.any _ _ _ _ (h hS hL (Closed.start _)))
end
end Go.Proofs.YtgofmnhfajmbfaaGreatDoor
namespace Go.Proofs.YtgofmnhfajmbfaaGreatDoor
open Go Go.RowKit Txt Sp
theorem cloneInts_any {w:World} {v:Value} {l:List Int} (hv:Ints w v l) (hl:l.length≤1000000) :
 Calls Tryz.prog 260 #[v] w fun e w'=>∃v',e = .returned v'∧OwnR 3 1 intC w.heap.size w' v' l∧Below w.heap.size w w':=by
 obtain⟨ad,n,cap,rfl,HN,hn,HF⟩:=RowAt.facts (f:=fun n:Int=>[Value.int .i64 n]) hv
 have hnl:=HN.out
 cases hl0:l with
 | nil=>
   rw[hl0] at hnl
   obtain rfl:n=0:=hnl
   cases ad with
   | none=>
     refine(Tryz.slices_Clone_int_nil 0 cap w).mono ?_
     rintro e w' ⟨rfl,rfl⟩
     exact⟨_,rfl,OwnR.void _ _,Below.refl _ _⟩
   | some a=>
     refine(Tryz.slices_Clone_int_zero a cap w).mono ?_
     rintro e w' ⟨v',rfl,h1,_,h2⟩
     exact⟨_,rfl,h1,h2⟩
 | cons x r=>
   have hpos:0<n:=by rw[hnl,hl0]; simp
   obtain⟨b,o,y,rfl,hb,_,_⟩:=HF.out 0 hpos
   refine(Tryz.slices_Clone_int b o n cap l w (by omega) (by omega) (fun j hj=>?_)).mono ?_
   ·obtain⟨b',o',z,e,_,hz,hc⟩:=HF.out j (by omega)
    cases e
    have:=hc 0 _ rfl
    simp only[Nat.mul_one,Nat.add_zero] at this
    rw[this,List.getD_eq_getElem?_getD,hz]
    rfl
   ·rintro e w' ⟨v',rfl,h1,_,h2⟩
    refine⟨v',rfl,?_,h2⟩
    unfold OwnR
    rw[←hl0,intC_map]
    rw[List.take_of_length_le (by omega),hnl] at h1
    exact h1
section
set_option maxHeartbeats 4000000
end
