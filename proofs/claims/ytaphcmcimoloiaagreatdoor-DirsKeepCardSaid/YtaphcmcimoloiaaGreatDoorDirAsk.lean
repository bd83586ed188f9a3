/-
 Walks of layer 17: find (it leaves the loop over the iterator early).
-/
import Derived.Test.YtaphcmcimoloiaaGreatDoorDirAll
import Derived.RangeFuncNested
import Derived.Test.YtaphcmcimoloiaaGreatDoorDirOpen
set_option maxRecDepth 100000
set_option maxHeartbeats 4000000
namespace Go.Proofs.YtaphcmcimoloiaaGreatDoor
open Go Go.RowKit Go.Shelf Txt Sp
attribute [local go_sem] Oper.semAt_some
def q52z:Option Ent→Value
 | some e=>.agg #[.int .i64 e.inode,.int .i64 e.sec,.int .i64 (e.slot:Int)]
 | none=>.agg #[.int .i64 0,.int .i64 0,.int .i64 0]
def placeC:Option Ent→Array Value
 | some e=>#[.int .i64 e.inode,.int .i64 e.sec,.int .i64 (e.slot:Int)]
 | none=>#[.int .i64 0,.int .i64 0,.int .i64 0]
def q113z (w:World) (r:Option Ent) (e:Ending) (w':World):Prop:=e = .returned (.tuple #[q52z r,.bool r.isSome])∧Below w.heap.size w w'
/-- The variables of find, while it goes. -/
structure FindI (w:World) (name:ByteArray) (r:Option Ent) (W:World):Prop where
 below:Below w.heap.size w W
 nam:W.heap[w.heap.size]? = some (.cells #[.string name] 9 (0,0))
 plc:W.heap[w.heap.size+1]? = some (.cells (placeC r) 72 (0,0))
 ok:W.heap[w.heap.size+2]? = some (.cells #[.bool r.isSome] 4 (0,0))
section
variable {w W W':World} {name:ByteArray} {r:Option Ent}
theorem cells_kept {b:Nat} {cs:Array Value} {e:TypeId} {fr:Nat×Nat} {row:Option Nat} (h:W.heap[b]? = some (.cells cs e fr)) (hg:W.grownBy W' row) (hr:∀k,row=some k→∃o:Obj,W.heap[k]? = some o∧o.isCells=false):W'.heap[b]? = some (.cells cs e fr):=
 (hg.block b (Array.getElem?_eq_some_iff.1 h).1 (fun e=>by
   obtain⟨o,ho,hc⟩:=hr b e.symm
   rw[h] at ho
   cases ho
   cases hc)).trans h
theorem FindI.grown {row:Option Nat} (h:FindI w name r W) (hg:W.grownBy W' row) (hr:∀k,row=some k→w.heap.size≤k∧∃o:Obj,W.heap[k]? = some o∧o.isCells=false):FindI w name r W':=
 ⟨h.below.grown hg h.below.size (fun k e=>(hr k e).1),cells_kept h.nam hg (fun k e=>(hr k e).2),cells_kept h.plc hg (fun k e=>(hr k e).2),cells_kept h.ok hg (fun k e=>(hr k e).2)⟩
theorem FindI.alloc (h:FindI w name r W) (o:Obj):FindI w name r (W.alloc o):=
 h.grown (World.grownBy_alloc W o none) (fun k e=>by cases e)
theorem FindI.set (h:FindI w name r W) (r':Option Ent) {x y z:Value} (hp:placeC r' = #[x,y,z]):FindI w name r' ((((W.setCell ⟨w.heap.size+1,0,none⟩ x).setCell ⟨w.heap.size+1,1,none⟩ y).setCell ⟨w.heap.size+1,2,none⟩ z).setCell ⟨w.heap.size+2,0,none⟩ (.bool r'.isSome)):=by
 refine⟨(((h.below.setCell (p:=⟨w.heap.size+1,0,none⟩) (by simp) _).setCell (p:=⟨w.heap.size+1,1,none⟩) (by simp) _).setCell (p:=⟨w.heap.size+1,2,none⟩) (by simp) _).setCell (p:=⟨w.heap.size+2,0,none⟩) (by simp) _,?_,?_,?_⟩
 ·rw[q24z _ (by omega),q24z _ (by omega),q24z _ (by omega),q24z _ (by omega)]
  exact h.nam
 ·rw[q24z _ (by omega)]
  have h3:=q8z (k:=2) (q8z (k:=1) (q8z (k:=0) h.plc x) y) z
  rw[h3,hp]
  cases r <;> rfl
 ·have h1:(((W.setCell ⟨w.heap.size+1,0,none⟩ x).setCell ⟨w.heap.size+1,1,none⟩ y).setCell ⟨w.heap.size+1,2,none⟩ z).heap[w.heap.size+2]? = some (.cells #[.bool r.isSome] 4 (0,0)):=by
   rw[q24z _ (by omega),q24z _ (by omega),q24z _ (by omega)]
   exact h.ok
  exact q8z (k:=0) h1 _
end
theorem grownBy_setCellK (W:World) (b k:Nat) (v:Value):W.grownBy (W.setCell ⟨b,k,none⟩ v) (some b):=
 ⟨by unfold World.setCell; split <;> rfl,by unfold World.setCell; split <;> rfl,by unfold World.setCell; split <;> rfl,by simp,fun j hj hne=>q24z v (fun e=>hne (by rw[e]))⟩
theorem findE_none {es:List Ent} {x:ByteArray} (h:∀e∈es,e.name≠x):findE es x=none:=by
 unfold findE
 rw[List.find?_eq_none]
 intro e he
 simpa using h e he
theorem findE_some {es pre:List Ent} {x:ByteArray} {e:Ent} (hp:pre ++ [e] <+: es) (h:∀e∈pre,e.name≠x) (he:e.name=x):findE es x=some e:=by
 obtain⟨t,rfl⟩:=hp
 have:=findE_none h
 unfold findE at *
 rw[List.append_assoc,List.find?_append,this]
 simp[he]
def FindG (w:World) (name:ByteArray) (pre:List Ent) (W:World):Prop:=(∀e∈pre,e.name≠name)∧FindI w name none W
def FindX (w:World) (name:ByteArray) (c:Code) (pre:List Ent) (W:World):Prop:=c = .ret∧∃pre' e,pre=pre' ++ [e]∧(∀x∈pre',x.name≠name)∧e.name=name∧FindI w name (some e) W
def FindA (w:World) (B:Nat) (name:ByteArray) (x:Ent) (a:Act) (W:World):Prop:=
 ∃Bx,W.heap[Bx]? = some (.cells #[.int .i64 x.inode,.int .i64 x.sec,.int .i64 (x.slot:Int)] 72 (0,0)) ∧
  a = { tmps:=#[.pointer (some ⟨B,0,none⟩),.string name,undef,.pointer (some ⟨w.heap.size,0,none⟩),.pointer (some ⟨w.heap.size+1,0,none⟩),.pointer (some ⟨w.heap.size+2,0,none⟩),.pointer (some ⟨Bx,0,none⟩),.string x.name,.pointer (some ⟨B,0,none⟩),.func (.func 186) #[] #[.pointer (some ⟨w.heap.size+3,0,none⟩)],.agg #[.int .i64 x.inode,.int .i64 x.sec,.int .i64 (x.slot:Int)],.string x.name,undef,undef,undef,undef,undef],defers:=[] }
section
theorem dfind_in (F:Fence) (n:Nat) (hf:F.fn 111) (hf1:F.fn 113) (hf2:F.fn 186) (hro:F.round=none) (hn:3≤n) (B base:Nat) (nd:Sp.Inode) (V:Int→ByteArray) (bl:List Int) (name:ByteArray) (w:World) (hd:DirAt w base B nd V bl) :
 CallsIn F n Tryz.prog 111 #[.pointer (some ⟨B,0,none⟩),.string name] w (q113z w (findE (bl.flatMap (entsB V)) name)):=by
 have h1:1≤n:=by omega
 obtain⟨es,hes⟩:∃es,bl.flatMap (entsB V)=es:=⟨_,rfl⟩
 rw[hes]
 refine callsIn_of_wp_marks Tryz.func111 rfl hf ?_ hro
 simp only[Tryz.ntmps111,List.size_toArray,List.length_cons,List.length_nil,Nat.reduceAdd,Nat.reduceSub,Array.replicate_succ,Array.replicate_zero,List.push_toArray,List.append_toArray,List.nil_append,List.cons_append]
 gi_wp2_with (gi_at_call 113; refine(dall_in F (n-1) hf1 hro B _).mono ?_; rintro e w' ⟨rfl,rfl⟩)
 rw[show w.heap.size+1+1+1=w.heap.size+3 from rfl,show w.heap.size+1+1=w.heap.size+2 from rfl]
 obtain⟨W0,hW0⟩:∃W,(((w.alloc (.cells #[.string name] 9)).alloc (.cells #[.int .i64 0,.int .i64 0,.int .i64 0] 72)).alloc (.cells #[.bool false] 4)).alloc (.cells #[.pointer (some ⟨B,0,none⟩)] 180)=W:=⟨_,rfl⟩
 have hsz:W0.heap.size=w.heap.size+4:=by rw[←hW0]; simp
 have hI0:FindI w name none W0:=by
  rw[←hW0]
  have a1:=q2z w (.cells #[.string name] 9)
  have a2:=q2z (w.alloc (.cells #[.string name] 9)) (.cells #[.int .i64 0,.int .i64 0,.int .i64 0] 72)
  have a3:=q2z ((w.alloc (.cells #[.string name] 9)).alloc (.cells #[.int .i64 0,.int .i64 0,.int .i64 0] 72)) (.cells #[.bool false] 4)
  rw[World.size_alloc] at a2
  rw[World.size_alloc,World.size_alloc] at a3
  exact⟨(((bl2 _).alloc (by simp) _).alloc (by simp; omega) _).alloc (by simp; omega) _,q1z (bl2 _) (q1z (bl2 _) (q1z (bl2 _) a1)),q1z (bl2 _) (q1z (bl2 _) a2),q1z (bl2 _) a3⟩
 have hbx:W0.heap[w.heap.size+3]? = some (.cells #[.pointer (some ⟨B,0,none⟩)] 180 (0,0)):=by
  rw[←hW0]
  have a4:=q2z (((w.alloc (.cells #[.string name] 9)).alloc (.cells #[.int .i64 0,.int .i64 0,.int .i64 0] 72)).alloc (.cells #[.bool false] 4)) (.cells #[.pointer (some ⟨B,0,none⟩)] 180)
  rw[World.size_alloc,World.size_alloc,World.size_alloc] at a4
  exact a4
 rw[hW0]
 clear hW0
 have hst:=dall_stops F (n-1) hf2 hro (by omega) (w.heap.size+3) B base nd V bl w W0 hd hI0.below hbx
 rw[hes] at hst
 clear hes hd
 refine wpIn_rangeFunc_ownH hro h1 (gf:=186) (lb:=#[.pointer (some ⟨w.heap.size+3,0,none⟩)]) rfl hf2 (enters_of Tryz.func186 (by kernel_rfl) rfl)
  hst keepsBox_t (keepsBox_b (w:=W0) (by omega) (by omega)) (Below.refl _ _) (fun _=>rfl)
  (FindG w name) (FindX w name)
  (fun pre X Y row hs hg hr=>⟨hs.1,hs.2.grown hg (fun k e=>⟨by have:=(hr k e).1; omega,(hr k e).2⟩)⟩)
  (fun c pre X Y row hs hg hr=>by obtain⟨g1,pre',e,g2,g3,g4,g5⟩:=hs; exact⟨g1,pre',e,g2,g3,g4,g5.grown hg (fun k e=>⟨by have:=(hr k e).1; omega,(hr k e).2⟩)⟩)
  ⟨fun e he=>(by cases he),hI0⟩
  (FindA w B name)
  (fun x a' _ X Y row hs hg hr=>by obtain⟨Bx,g2,g3⟩:=hs; exact⟨Bx,cells_kept g2 hg (fun k e=>(hr k e).2),g3⟩)
  ?assign ?body ?done ?stop
 case assign=>
  rintro l pre x W K hI hK
  have hlt:=(Array.getElem?_eq_some_iff.1 hI.2.ok).1
  unfold entV
  dsimp only
  gi_wp2_with (rw[Oper.semAt_eq _ _ _ (fun c h=>by cases h)]; go_simp; try go_bits)
  exact hK _ _ ((KeepsOthers.alloc _ _).from _) ⟨(Below.refl _ _).alloc hI.2.below.size _,fun hb=>Below.heap_alloc _ _ _ hb⟩ ⟨hI.1,hI.2.alloc _⟩ ⟨W.heap.size,q2z W _,rfl⟩
 case body=>
  rintro l pre x a' W hl hr ⟨hpre,hI⟩ ⟨Bx,bX,rfl⟩ hlt
  have n0:=cellOf (k:=0) hI.nam rfl
  have p0:=cellOf (k:=0) hI.plc rfl
  have p1:=cellOf (k:=1) hI.plc rfl
  have p2:=cellOf (k:=2) hI.plc rfl
  have q0:=cellOf (k:=0) hI.ok rfl
  have y0:=cellOf (k:=0) bX rfl
  have y1:=cellOf (k:=1) bX rfl
  have y2:=cellOf (k:=2) bX rfl
  have g0:∀k,W.frozen? ⟨w.heap.size+1,k,none⟩=false:=(q45z hI.plc).2
  have g1:∀k,W.frozen? ⟨w.heap.size+2,k,none⟩=false:=(q45z hI.ok).2
  have HI:=Lib.hid hI
  by_cases hx:x.name=name
  ·have HX:Hid (FindX w name .ret (pre ++ [x]) _):=⟨rfl,pre,x,rfl,hpre,hx,hI.set (some x) rfl⟩
   have hq:(x.name.toList == name.toList)=true:=by simp[hx]
   have hK4:∀(W:World) (k:Nat) (v:Value),KeepsFrom W0.heap.size W (W.setCell ⟨w.heap.size+1,k,none⟩ v):=fun W k v=>KeepsFrom.of_grownBy (grownBy_setCellK W _ k v) (fun j e=>by cases e; omega)
   have hK5:∀(W:World) (k:Nat) (v:Value),KeepsFrom W0.heap.size W (W.setCell ⟨w.heap.size+2,k,none⟩ v):=fun W k v=>KeepsFrom.of_grownBy (grownBy_setCellK W _ k v) (fun j e=>by cases e; omega)
   clear hI
   gi_wp2_with (rw[Oper.semAt_eq _ _ _ (fun c h=>by cases h)]; go_simp; try go_bits)
   exact⟨(((hK4 _ _ _).trans (hK4 _ _ _)).trans (hK4 _ _ _)).trans (hK5 _ _ _),HX.out⟩
  ·have HX:Hid (FindG w name (pre ++ [x]) W):=⟨fun e he=>by
    rcases List.mem_append.1 he with h | h
    ·exact hpre e h
    ·rw[List.mem_singleton.1 h]; exact hx,hI⟩
   have hq:(x.name.toList == name.toList)=false:=(text_eq _ _).trans (decide_eq_false hx)
   clear hI
   gi_wp2_with (rw[Oper.semAt_eq _ _ _ (fun c h=>by cases h)]; go_simp; try go_bits)
   exact⟨KeepsFrom.refl _ _,⟨Below.refl _ _,fun _=>rfl⟩,HX.out⟩
 case done=>
  rintro D xs W hD rfl ⟨hpre,hI⟩ hK
  have HN:=Lib.hid (findE_none hpre)
  clear hpre
  have p0:=cellOf (k:=0) hI.plc rfl
  have p1:=cellOf (k:=1) hI.plc rfl
  have p2:=cellOf (k:=2) hI.plc rfl
  have q0:=cellOf (k:=0) hI.ok rfl
  have g0:∀k,W.frozen? ⟨w.heap.size+1,k,none⟩=false:=(q45z hI.plc).2
  have g1:∀k,W.frozen? ⟨w.heap.size+2,k,none⟩=false:=(q45z hI.ok).2
  have hS:=hI.set none (x:=.int .i64 0) (y:=.int .i64 0) (z:=.int .i64 0) rfl
  have hK2:((((W.setCell ⟨w.heap.size+1,0,none⟩ (.int .i64 0)).setCell ⟨w.heap.size+1,1,none⟩ (.int .i64 0)).setCell ⟨w.heap.size+1,2,none⟩ (.int .i64 0)).setCell ⟨w.heap.size+2,0,none⟩ (.bool false)).heap[D]? = some (.deferred (some [])):=by
   rw[q24z _ (by omega),q24z _ (by omega),q24z _ (by omega),q24z _ (by omega)]
   exact hK
  have HF:Hid (FindI w name none (World.putObj _ D (.deferred none))):=hS.grown (grownBy_putObj' _ D (.deferred none)) (fun k e=>by cases e; exact⟨by omega,_,hK2,rfl⟩)
  clear hS
  clear hI
  gi_wp2
  refine⟨by simp,.inl ⟨_,_,rfl,run_takeDeferred hK2,?_⟩⟩
  rw[HN.out]
  obtain⟨W7,hW7⟩:∃Z,(((((W.setCell ⟨w.heap.size+1,0,none⟩ (.int .i64 0)).setCell ⟨w.heap.size+1,1,none⟩ (.int .i64 0)).setCell ⟨w.heap.size+1,2,none⟩ (.int .i64 0)).setCell ⟨w.heap.size+2,0,none⟩ (.bool false)).putObj D (.deferred none))=Z:=⟨_,rfl⟩
  have HF2:Hid (FindI w name none W7):=by rw[←hW7]; exact HF.out
  rw[hW7]
  clear hW7 HF
  refine⟨.tuple #[q52z none,.bool false],?_,rfl,HF2.out.below⟩
  have r0:=cellOf (k:=0) HF2.out.plc rfl
  have r1:=cellOf (k:=1) HF2.out.plc rfl
  have r2:=cellOf (k:=2) HF2.out.plc rfl
  have r3:=cellOf (k:=0) HF2.out.ok rfl
  simp[results,Tryz.results111,go_sem,r0,r1,r2,r3]
  rfl
 case stop=>
  rintro D c pre W hD hp ⟨rfl,pre',e,rfl,hpre,he,hI⟩ hK
  rw[findE_some hp hpre he]
  have HF:Hid (FindI w name (some e) (World.putObj _ D (.deferred none))):=hI.grown (grownBy_putObj' _ D (.deferred none)) (fun k e=>by cases e; exact⟨by omega,_,hK,rfl⟩)
  clear hI
  gi_wp2
  refine⟨by simp,.inl ⟨_,_,rfl,run_takeDeferred hK,?_⟩⟩
  refine⟨.tuple #[q52z (some e),.bool true],?_,rfl,HF.out.below⟩
  have r0:=cellOf (k:=0) HF.out.plc rfl
  have r1:=cellOf (k:=1) HF.out.plc rfl
  have r2:=cellOf (k:=2) HF.out.plc rfl
  have r3:=cellOf (k:=0) HF.out.ok rfl
  simp[results,Tryz.results111,go_sem,r0,r1,r2,r3]
  rfl
theorem dfind_any {w:World} {base B:Nat} {nd:Sp.Inode} {V:Int→ByteArray} {bl:List Int} (hd:DirAt w base B nd V bl) (name:ByteArray) :
 Calls Tryz.prog 111 #[.pointer (some ⟨B,0,none⟩),.string name] w (q113z w (findE (bl.flatMap (entsB V)) name)):=
 callsIn_wide.1 (dfind_in Fence.wide 5 trivial trivial trivial rfl (by omega) B base nd V bl name w hd)
end
end Go.Proofs.YtaphcmcimoloiaaGreatDoor
namespace Go.Proofs.YtaphcmcimoloiaaGreatDoor
open Go Go.RowKit Txt Sp
def findC (es:List Ent) (name:ByteArray):Int:=if nameB name=true then(if(findE es name).isSome then 0 else 100) else 90
def findR (es:List Ent) (name:ByteArray):Option Ent:=if nameB name=true then findE es name else none
def FindPost (w:World) (es:List Ent) (name:ByteArray) (e:Ending) (w':World):Prop:=e = .returned (.tuple #[q52z (findR es name),.int .i64 (findC es name)])∧Below w.heap.size w w'
section
variable {w W:World}
def q122z (w:World) (b:Nat) (r:Option Ent) (W:World):Prop:=Below w.heap.size w W∧W.heap[b]? = some (.cells (placeC r) 72 (0,0))
theorem q122z.set {b:Nat} {r:Option Ent} (h:q122z w b r W) (hb:w.heap.size≤b) (r':Option Ent) {x y z:Value} (hp:placeC r' = #[x,y,z]):q122z w b r' (((W.setCell ⟨b,0,none⟩ x).setCell ⟨b,1,none⟩ y).setCell ⟨b,2,none⟩ z):=by
 refine⟨((h.1.setCell (p:=⟨b,0,none⟩) hb _).setCell (p:=⟨b,1,none⟩) hb _).setCell (p:=⟨b,2,none⟩) hb _,?_⟩
 have h3:=q8z (k:=2) (q8z (k:=1) (q8z (k:=0) h.2 x) y) z
 rw[h3,hp]
 cases r <;> rfl
end
section
theorem dirFind_any {w:World} {base Bs Bd:Nat} {S:Sp.Side} {D:Nat→Prop} (h:SideAt w base Bs Bd S D) {g:Sp.Geom} {i:Int} {F:File} (hs:Stands S g i F) (hd:DirOk S.read F) (hb:∀b∈F.blocks,0≤b) (hh:∀b∈q19z F,S.disk.has b) (hm:MaxOk w) (name:ByteArray) (hnm:name.size≤9223372036854775807) :
 Calls Tryz.prog 38 #[pt Bs,gV g,.int .i64 i,.string name] w (FindPost w (ents S.read F) name):=by
 have hop:=fun(W:World) (hW:Below w.heap.size w W)=>q154z (h.below hW) hs hd hb hh (hm.below hW)
 have hna:=fun(W:World) (hW:Below w.heap.size w W)=>name_any name W (hm.below hW) hnm
 have hfi:=fun(W:World) (base B:Nat) (hd:DirAt W base B F.node S.read (q19z F))=>dfind_any hd name
 obtain⟨es,hes⟩:∃es,ents S.read F=es:=⟨_,rfl⟩
 have hes2:(q19z F).flatMap (entsB S.read)=es:=hes
 rw[hes2] at hfi
 rw[hes]
 unfold q112z at hop
 obtain⟨V,hV⟩:∃V,S.read=V:=⟨_,rfl⟩
 obtain⟨bl,hbl⟩:∃bl,q19z F=bl:=⟨_,rfl⟩
 obtain⟨nd,hnd⟩:∃nd,F.node=nd:=⟨_,rfl⟩
 rw[hV,hbl,hnd] at hop hfi
 obtain⟨ga,gb,gc⟩:=g
 unfold gV pt at *
 dsimp only at hop
 have HOP:=Lib.hid hop
 have HNA:=Lib.hid hna
 have HFI:=Lib.hid hfi
 clear hop hna hfi
 clear h hs hd hb hh hm hnm hes hes2 hV hbl hnd
 obtain⟨W0,hW0⟩:∃W,(w.alloc (.cells #[.int .i64 ga,.int .i64 gb,.int .i64 gc] 27)).alloc (.cells #[.int .i64 0,.int .i64 0,.int .i64 0] 72)=W:=⟨_,rfl⟩
 have hP0:q122z w (w.heap.size+1) none W0:=by
  rw[←hW0]
  have a2:=q2z (w.alloc (.cells #[.int .i64 ga,.int .i64 gb,.int .i64 gc] 27)) (.cells #[.int .i64 0,.int .i64 0,.int .i64 0] 72)
  rw[World.size_alloc] at a2
  exact⟨(bl2 _).alloc (by simp) _,a2⟩
 have hg0:W0.heap[w.heap.size]? = some (.cells #[.int .i64 ga,.int .i64 gb,.int .i64 gc] 27 (0,0)):=by
  rw[←hW0]
  exact q1z (bl2 _) (q2z w _)
 have HP0:=Lib.hid hP0
 have z0:=cellOf (k:=0) hg0 rfl
 have z1:=cellOf (k:=1) hg0 rfl
 have z2:=cellOf (k:=2) hg0 rfl
 clear hP0 hg0
 go_enter Tryz.func38,Tryz.ntmps38
 go_wp2_with fail
 clear z0 z1 z2 hW0
 refine(HOP.out W0 HP0.out.1).mono ?_
 rintro e w1 ⟨B,rfl,hda,hb1⟩
 have HP1:Hid (q122z w (w.heap.size+1) none w1):=⟨HP0.out.1.trans (hb1.mono HP0.out.1.size),q1z hb1 HP0.out.2⟩
 have HDA:=Lib.hid hda
 clear hda hb1
 obtain⟨bn,hbn⟩:∃b,nameB name=b:=⟨_,rfl⟩
 cases bn with
 | false=>
   have HR:Hid (findR es name=none):=by unfold findR; rw[hbn]; rfl
   have HC:Hid (findC es name=90):=by unfold findC; rw[hbn]; rfl
   have p0:=cellOf (k:=0) HP1.out.2 rfl
   have p1:=cellOf (k:=1) HP1.out.2 rfl
   have p2:=cellOf (k:=2) HP1.out.2 rfl
   have g0:∀k,w1.frozen? ⟨w.heap.size+1,k,none⟩=false:=(q45z HP1.out.2).2
   go_wp2_with fail
   refine(HNA.out w1 HP1.out.1).mono ?_
   rintro e w2 ⟨rfl,hw2⟩
   subst hw2
   rw[hbn]
   have hP9:=HP1.out.set (by omega) none (x:=.int .i64 0) (y:=.int .i64 0) (z:=.int .i64 0) rfl
   obtain⟨W9,hW9⟩:∃Z,(((w1.setCell ⟨w.heap.size+1,0,none⟩ (.int .i64 0)).setCell ⟨w.heap.size+1,1,none⟩ (.int .i64 0)).setCell ⟨w.heap.size+1,2,none⟩ (.int .i64 0))=Z:=⟨_,rfl⟩
   rw[hW9] at hP9
   have HP9:=Lib.hid hP9
   have r0:=cellOf (k:=0) HP9.out.2 rfl
   have r1:=cellOf (k:=1) HP9.out.2 rfl
   have r2:=cellOf (k:=2) HP9.out.2 rfl
   clear hP9
   go_wp2
   refine bodyPost_ret (v:=.tuple #[q52z none,.int .i64 90]) ?_ rfl ?_
   ·first | rw[hW9] | skip
    simp[results,Tryz.results38,go_sem,r0,r1,r2]
    rfl
   ·exact⟨by rw[HR.out,HC.out],by first | exact HP9.out.1 | (rw[hW9]; exact HP9.out.1)⟩
 | true=>
   go_wp2_with fail
   refine(HNA.out w1 HP1.out.1).mono ?_
   rintro e w2 ⟨rfl,hw2⟩
   subst hw2
   rw[hbn]
   go_wp2_with fail
   refine(HFI.out w1 _ B HDA.out).mono ?_
   rintro e w3 ⟨rfl,hb3⟩
   have HP3:Hid (q122z w (w.heap.size+1) none w3):=⟨HP1.out.1.trans (hb3.mono HP1.out.1.size),q1z hb3 HP1.out.2⟩
   clear hb3
   cases hr:findE es name with
   | none=>
     have HR:Hid (findR es name=none):=by unfold findR; rw[hbn,hr]; rfl
     have HC:Hid (findC es name=100):=by unfold findC; rw[hbn,hr]; rfl
     clear hr hbn
     unfold q52z
     dsimp only[Option.isSome]
     obtain⟨w4,hw4⟩:∃W,w3.alloc (.cells #[.int .i64 0,.int .i64 0,.int .i64 0] 72)=W:=⟨_,rfl⟩
     have HP4:Hid (q122z w (w.heap.size+1) none w4):=by rw[←hw4]; exact⟨HP3.out.1.trans ((bl2 _).mono HP3.out.1.size),q1z (bl2 _) HP3.out.2⟩
     have HZ4:Hid (w4.heap[w3.heap.size]? = some (.cells #[.int .i64 0,.int .i64 0,.int .i64 0] 72 (0,0))):=by rw[←hw4]; exact q2z w3 _
     have q0:=cellOf (k:=0) HZ4.out rfl
     have q1:=cellOf (k:=1) HZ4.out rfl
     have q2:=cellOf (k:=2) HZ4.out rfl
     have hz:∀k,w4.frozen? ⟨w3.heap.size,k,none⟩=false:=(q45z HZ4.out).2
     obtain⟨w5,hw5⟩:∃Z,((w4.setCell ⟨w3.heap.size,0,none⟩ (.int .i64 0)).setCell ⟨w3.heap.size,1,none⟩ (.int .i64 0)).setCell ⟨w3.heap.size,2,none⟩ (.int .i64 0)=Z:=⟨_,rfl⟩
     have HP5:Hid (q122z w (w.heap.size+1) none w5):=by
      have h3:=(Array.getElem?_eq_some_iff.1 HP3.out.2).1
      have hle:=HP3.out.1.size
      rw[←hw5]
      refine⟨((HP4.out.1.setCell (p:=⟨w3.heap.size,0,none⟩) hle _).setCell (p:=⟨w3.heap.size,1,none⟩) hle _).setCell (p:=⟨w3.heap.size,2,none⟩) hle _,?_⟩
      rw[q24z _ (by omega),q24z _ (by omega),q24z _ (by omega)]
      exact HP4.out.2
     have p0:=cellOf (k:=0) HP5.out.2 rfl
     have p1:=cellOf (k:=1) HP5.out.2 rfl
     have p2:=cellOf (k:=2) HP5.out.2 rfl
     have g0:∀k,w5.frozen? ⟨w.heap.size+1,k,none⟩=false:=(q45z HP5.out.2).2
     have hP9:=HP5.out.set (by omega) (none) (x:=.int .i64 0) (y:=.int .i64 0) (z:=.int .i64 0) rfl
     obtain⟨W9,hW9⟩:∃Z,(((w5.setCell ⟨w.heap.size+1,0,none⟩ (.int .i64 0)).setCell ⟨w.heap.size+1,1,none⟩ (.int .i64 0)).setCell ⟨w.heap.size+1,2,none⟩ (.int .i64 0))=Z:=⟨_,rfl⟩
     rw[hW9] at hP9
     have HP9:=Lib.hid hP9
     have r0:=cellOf (k:=0) HP9.out.2 rfl
     have r1:=cellOf (k:=1) HP9.out.2 rfl
     have r2:=cellOf (k:=2) HP9.out.2 rfl
     clear hP9
     go_wp2
     refine bodyPost_ret (v:=.tuple #[q52z (none),.int .i64 100]) ?_ rfl ?_
     ·first | rw[hW9] | skip
      simp[results,Tryz.results38,go_sem,r0,r1,r2]
      rfl
     ·exact⟨by rw[HR.out,HC.out],by first | exact HP9.out.1 | (rw[hW9]; exact HP9.out.1)⟩
   | some x=>
     have HR:Hid (findR es name=some x):=by unfold findR; rw[hbn,hr]; rfl
     have HC:Hid (findC es name=0):=by unfold findC; rw[hbn,hr]; rfl
     clear hr hbn
     unfold q52z
     dsimp only[Option.isSome]
     obtain⟨w4,hw4⟩:∃W,w3.alloc (.cells #[.int .i64 x.inode,.int .i64 x.sec,.int .i64 (x.slot:Int)] 72)=W:=⟨_,rfl⟩
     have HP4:Hid (q122z w (w.heap.size+1) none w4):=by rw[←hw4]; exact⟨HP3.out.1.trans ((bl2 _).mono HP3.out.1.size),q1z (bl2 _) HP3.out.2⟩
     have HZ4:Hid (w4.heap[w3.heap.size]? = some (.cells #[.int .i64 x.inode,.int .i64 x.sec,.int .i64 (x.slot:Int)] 72 (0,0))):=by rw[←hw4]; exact q2z w3 _
     have q0:=cellOf (k:=0) HZ4.out rfl
     have q1:=cellOf (k:=1) HZ4.out rfl
     have q2:=cellOf (k:=2) HZ4.out rfl
     have p0:=cellOf (k:=0) HP4.out.2 rfl
     have p1:=cellOf (k:=1) HP4.out.2 rfl
     have p2:=cellOf (k:=2) HP4.out.2 rfl
     have g0:∀k,w4.frozen? ⟨w.heap.size+1,k,none⟩=false:=(q45z HP4.out.2).2
     have hP9:=HP4.out.set (by omega) (some x) (x:=.int .i64 x.inode) (y:=.int .i64 x.sec) (z:=.int .i64 (x.slot:Int)) rfl
     obtain⟨W9,hW9⟩:∃Z,(((w4.setCell ⟨w.heap.size+1,0,none⟩ (.int .i64 x.inode)).setCell ⟨w.heap.size+1,1,none⟩ (.int .i64 x.sec)).setCell ⟨w.heap.size+1,2,none⟩ (.int .i64 (x.slot:Int)))=Z:=⟨_,rfl⟩
     rw[hW9] at hP9
     have HP9:=Lib.hid hP9
     have r0:=cellOf (k:=0) HP9.out.2 rfl
     have r1:=cellOf (k:=1) HP9.out.2 rfl
     have r2:=cellOf (k:=2) HP9.out.2 rfl
     clear hP9
     go_wp2
     refine bodyPost_ret (v:=.tuple #[q52z (some x),.int .i64 0]) ?_ rfl ?_
     ·first | rw[hW9] | skip
      simp[results,Tryz.results38,go_sem,r0,r1,r2]
      rfl
     ·exact⟨by rw[HR.out,HC.out],by first | exact HP9.out.1 | (rw[hW9]; exact HP9.out.1)⟩
end
end Go.Proofs.YtaphcmcimoloiaaGreatDoor
