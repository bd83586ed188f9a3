import Derived.Test.YtgofmnhfajmbfaaGreatDoorDefMap
import Derived.RangeFuncNested
namespace Go.Proofs.YtgofmnhfajmbfaaGreatDoor
open Go Go.RowKit Go.Shelf Txt
theorem perm_pull {e:MapEntry}:∀{L:List MapEntry},(L.map (·.born)).Nodup→e∈L→L.Perm (e :: L.filter (fun x=>x.born != e.born))
 | [],_,h=>by cases h
 | a :: r,hn,h=>by
   rw[List.map_cons,List.nodup_cons] at hn
   rcases List.mem_cons.1 h with rfl | h
   ·rw[List.filter_cons,if_neg (by simp),List.filter_eq_self.2 (fun x hx=>by
     simp only[bne_iff_ne,ne_eq]
     intro he
     exact hn.1 (List.mem_map.2 ⟨x,hx,he⟩))]
   ·have hne:a.born≠e.born:=fun he=>hn.1 (List.mem_map.2 ⟨e,h,he.symm⟩)
    rw[List.filter_cons,if_pos (by simpa using hne)]
    exact((perm_pull hn.2 h).cons a).trans (List.Perm.swap _ _ _)
theorem leftOf_push (es:Array MapEntry) (seen:Array Nat) (b:Nat):(leftOf es (seen.push b)).toList=(leftOf es seen).toList.filter (fun x=>x.born != b):=by
 unfold leftOf
 rw[Array.toList_filter,Array.toList_filter,List.filter_filter]
 apply List.filter_congr
 intro x _
 rw[Array.contains_push]
 cases h1:seen.contains x.born <;> cases h2:(x.born == b) <;> simp_all
def unD:Value→Int×Int
 | .agg #[.int _ a,.int _ b]=>(a,b)
 | _=>(0,0)
def q55z (w:World) (b r:Nat) (l done:List (Int×Int)):Prop:=
 ∃es clock since seen c0,w.heap[b]? = some (.map es clock)∧MapKept.Stamped es clock∧es.toList.map (fun e=>(e.key,e.val))=l.map encD∧w.heap[r]? = some (.mapIter (some b) since seen c0) ∧
  (∀x∈es.toList,x.born<since)∧since≤c0∧since≤clock∧(done ++ (leftOf es seen).toList.map (fun e=>unD e.key)).Perm l
section
variable {w w':World} {b r:Nat} {l done:List (Int×Int)} {t k e:TypeId}
theorem q55z.ne (h:q55z w b r l done):r≠b:=by
 obtain⟨es,clock,since,seen,c0,hb,_,_,hr,_⟩:=h
 intro e
 rw[e,hb] at hr
 cases hr
theorem q55z.of_walks (h:q55z w b r l done) (hk:KeepsWalks w w'):q55z w' b r l done:=by
 obtain⟨es,clock,since,seen,c0,hb,h1,h2,hr,rest⟩:=h
 exact⟨es,clock,since,seen,c0,hk.same b _ hb rfl,h1,h2,hk.same r _ hr rfl,rest⟩
theorem q55z.iter_walk (h:q55z w b r l done):∃o:Obj,w.heap[r]? = some o∧o.isWalk=true:=by
 obtain⟨es,clock,since,seen,c0,_,_,_,hr,_⟩:=h
 exact⟨_,hr,rfl⟩
theorem q55z.start (h:q59z w b l):(Instr.range 136 (.map (some b))).run Tryz.prog w = .ok (.pointer (some ⟨w.heap.size,0,none⟩)) (w.alloc ((w.heap[b]?.map (fun o=>match o with | .map _ c=>Obj.mapIter (some b) c #[] c | _=>o)).getD (.map #[] 0))) ∧
 q55z (w.alloc ((w.heap[b]?.map (fun o=>match o with | .map _ c=>Obj.mapIter (some b) c #[] c | _=>o)).getD (.map #[] 0))) b w.heap.size l []:=by
 obtain⟨o,ho,es,clock,rfl,hst,hen⟩:=h
 rw[ho]
 have hlt:=(Array.getElem?_eq_some_iff.1 ho).1
 refine⟨run_range_map w _ _ _ b es clock ht_dmap ho,es,clock,clock,#[],clock,((Below.heap_alloc _ _ b hlt).trans ho),hst,hen,q5z w _,hst.1,Nat.le_refl _,Nat.le_refl _,?_⟩
 have h1:leftOf es #[]=es:=by unfold leftOf; exact Array.filter_eq_self.2 (fun x _=>by simp)
 have h2:es.toList.map (fun e=>unD e.key)=l:=by
  have:=congrArg (List.map (fun p:Value×Value=>unD p.1)) hen
  rw[List.map_map,List.map_map] at this
  refine(show es.toList.map (fun e=>unD e.key)=_ from this).trans ?_
  refine(List.map_congr_left (g:=id) (fun x _=>?_)).trans (List.map_id l)
  rfl
 rw[h1,h2]
 exact List.Perm.refl _
theorem q55z.next (h:q55z w b r l done) (ty:TypeId) :
 (done.Perm l∧(Instr.next (.pointer (some ⟨r,0,none⟩)) false ty).run Tryz.prog w = .ok (.tuple #[.bool false]) w) ∨
 ∃x w',(Instr.next (.pointer (some ⟨r,0,none⟩)) false ty).run Tryz.prog w = .ok (.tuple #[.bool true,defV x,.bool true]) w'∧q55z w' b r l (done ++ [x])∧w.grownBy w' (some r) ∧
  (Instr.entry (.pointer (some ⟨r,0,none⟩))).run Tryz.prog w' = .ok (.tuple #[defV x,.bool true]) w'∧done.length<l.length∧w'.rangeLeft b r<w.rangeLeft b r:=by
 have hne:=h.ne
 obtain⟨es,clock,since,seen,c0,hb,hst,hen,hr,hold,hsc,hscl,hp⟩:=h
 rcases run_next_at (P:=Tryz.prog) w ty r b since c0 seen es clock hr hb hold hsc with ⟨h0,hrun⟩ | ⟨e,he,w1,hal,hrun⟩
 ·left
  refine⟨?_,hrun⟩
  have:(leftOf es seen).toList=[]:=by rw[Array.eq_empty_of_size_eq_zero h0]
  rw[this] at hp
  simpa using hp
 ·right
  have hmem:e∈es.toList:=by
   unfold leftOf at he
   rw[Array.toList_filter] at he
   exact(List.mem_filter.1 he).1
  obtain⟨x,hxl,hx⟩:∃x∈l,encD x=(e.key,e.val):=by
   have:(e.key,e.val)∈l.map encD:=by rw[←hen]; exact List.mem_map.2 ⟨e,hmem,rfl⟩
   exact List.mem_map.1 this
  have hk:e.key=defV x:=(congrArg Prod.fst hx).symm
  have hv:e.val = .bool true:=(congrArg Prod.snd hx).symm
  have hnd:((leftOf es seen).toList.map (·.born)).Nodup:=by
   unfold leftOf
   rw[Array.toList_filter]
   exact(List.filter_sublist.map _).nodup hst.2.1
  have hpull:=perm_pull hnd he
  rw[←leftOf_push] at hpull
  have hwr:w1.heap[r]? = some (.mapIter (some b) since seen c0):=by rcases hal with rfl | rfl <;> exact hr
  have hwb:w1.heap[b]? = some (.map es clock):=by rcases hal with rfl | rfl <;> exact hb
  have hlt:r<w1.heap.size:=(Array.getElem?_eq_some_iff.1 hwr).1
  have hnr:(ChangeMaps.setBlock w1 r (.mapIter (some b) since (seen.push e.born) clock)).heap[r]? = some (.mapIter (some b) since (seen.push e.born) clock):=IM.heap_setBlock_at hlt
  have hnb:(ChangeMaps.setBlock w1 r (.mapIter (some b) since (seen.push e.born) clock)).heap[b]? = some (.map es clock):=(IM.heap_setBlock_ne (Ne.symm hne)).trans hwb
  rw[hk,hv] at hrun
  refine⟨x,_,hrun,⟨es,clock,since,seen.push e.born,clock,hnb,hst,hen,hnr,hold,hscl,hscl,?_⟩,?_,?_,?_,?_⟩
  ·refine List.Perm.trans ?_ hp
   rw[List.append_assoc]
   refine List.Perm.append_left done ?_
   have h2:=(hpull.map (fun e=>unD e.key)).symm
   rw[List.map_cons,hk] at h2
   exact h2
  ·refine⟨?_,?_,?_,?_,fun j hj hne2=>?_⟩
   ·rcases hal with rfl | rfl <;> rfl
   ·rcases hal with rfl | rfl <;> rfl
   ·rcases hal with rfl | rfl <;> rfl
   ·rw[IM.size_setBlock]; rcases hal with rfl | rfl <;> exact Nat.le_refl _
   ·rw[IM.heap_setBlock_ne (fun e=>hne2 (by rw[e]))]
    rcases hal with rfl | rfl <;> rfl
  ·have:=run_entry_at (P:=Tryz.prog) _ r b since seen es clock e hnr hnb hmem hst.2.1
   rw[hk,hv] at this
   exact this
  ·have h3:=hp.length_eq
   have h4:=hpull.length_eq
   rw[List.length_append,List.length_map] at h3
   rw[List.length_cons] at h4
   omega
  ·have h4:=hpull.length_eq
   rw[List.length_cons] at h4
   unfold World.rangeLeft
   rw[hnb,hnr,hb,hr]
   simp only
   rw[←Array.length_toList,←Array.length_toList,h4]
   omega
theorem q55z.left_walks (h:q55z w b r l done) (hk:KeepsWalks w w'):w'.rangeLeft b r=w.rangeLeft b r:=by
 obtain⟨es,clock,since,seen,c0,hb,_,_,hr,_⟩:=h
 unfold World.rangeLeft
 rw[hk.same b _ hb rfl,hk.same r _ hr rfl,hb,hr]
def defC (x:Int×Int):List Value:=[.int .i64 x.1,.int .i64 x.2]
theorem infoDef:(Tryz.prog.info? 132).map (fun i=>(i.zero,i.size,i.bytes))=some (some (.agg #[.int .i64 0,.int .i64 0]),2,16):=by kernel_rfl
set_option maxRecDepth 100000
set_option maxHeartbeats 2000000
theorem dkeys_in (F:Fence) (n:Nat) (h7:F.fn 76) (hro:F.round=none) (mb:Option Nat) (w:World) :
 CallsIn F n Tryz.prog 76 #[.map mb] w fun e w'=>e = .returned (.func (.func 154) #[] #[.pointer (some ⟨w.heap.size,0,none⟩)])∧w' = w.alloc (.cells #[.map mb] 136):=by
 refine callsIn_of_wp Tryz.func76 rfl h7 ?_ hro
 simp only[Tryz.ntmps76,List.size_toArray,List.length_cons,List.length_nil,Nat.reduceAdd,Nat.reduceSub,Array.replicate_succ,Array.replicate_zero,List.push_toArray,List.append_toArray,List.nil_append,List.cons_append]
 gi_wp2
 go_ret
 exact⟨rfl,rfl⟩
theorem dkeys1_in (F:Fence) (n:Nat) (h10:F.fn 154) (hro:F.round=none) (hn:1≤n) (y Bm b:Nat) (ls:List (Int×Int)) (J Jx:List (Int×Int)→World→Prop) (W:World) (hJ:AbidesFrom W.heap.size J)
 (hY:∀pre x W1,J pre W1→pre.length<ls.length→YieldAt F (n-1) Tryz.prog y #[defV x] W1 fun e W'=>(e = .returned (.bool true)∧J (pre ++ [x]) W'∧KeepsWalks W1 W')∨(e = .returned (.bool false)∧Jx (pre ++ [x]) W'))
 (hm:W.cell? ⟨Bm,0,none⟩=some (.map (some b))) (hd:q59z W b ls) (h0:J [] W) :
 CallsIn F n Tryz.prog 154 #[.func (.yield y) #[] #[],.pointer (some ⟨Bm,0,none⟩)] W fun e W'=>(∃v,e = .returned v)∧((∃xs:List (Int×Int),xs.Perm ls∧J xs W')∨(∃pre,True∧Jx pre W')):=by
 refine callsIn_of_wp Tryz.func154 rfl h10 ?_ hro
 simp only[Tryz.ntmps154,List.size_toArray,List.length_cons,List.length_nil,Nat.reduceAdd,Nat.reduceSub,Array.replicate_succ,Array.replicate_zero,List.push_toArray,List.append_toArray,List.nil_append,List.cons_append]
 obtain⟨hrg,hR0⟩:=q55z.start hd
 obtain⟨o0,ho0⟩:∃o,((W.heap[b]?.map (fun o=>match o with | .map _ c=>Obj.mapIter (some b) c #[] c | _=>o)).getD (.map #[] 0))=o:=⟨_,rfl⟩
 rw[ho0] at hrg hR0
 have hJ0:J [] (W.alloc o0):=hJ [] W _ none h0 (World.grownBy_alloc W o0 none) (fun r e=>by cases e)
 clear ho0 hd
 gi_wp2
 clear hrg hm
 gi_loopw [3] (fun _ wr=>∃done,Hid (q55z wr b W.heap.size ls done∧J done wr)) (fun _ wr=>wr.rangeLeft b W.heap.size)
 case atStart=>exact⟨[],hR0,hJ0⟩
 case round=>
  obtain⟨done,HRel⟩:=hrel
  rcases HRel.out.1.next 0 with ⟨hp,hrun⟩ | ⟨x,w2,hrun,hr2,hg2,hent,hlt,hms⟩
  ·have HP:=zh hp
   clear hp
   gi_wp2
   go_end0
   exact⟨⟨_,rfl⟩,.inl ⟨done,HP.out,HRel.out.2⟩⟩
  ·have hJ2:J done w2:=hJ done wr w2 (some W.heap.size) HRel.out.2 hg2 (fun r e=>by cases e; exact⟨Nat.le_refl _,HRel.out.1.iter_walk⟩)
   obtain⟨x1,x2⟩:=x
   unfold defV at hrun hent
   dsimp only at hrun hent
   obtain⟨W3,hW3⟩:=zx (w2.alloc (.cells #[.int .i64 x1,.int .i64 x2] 132))
   have hJ3:J done W3:=by rw[←hW3]; exact hJ done w2 _ none hJ2 (World.grownBy_alloc w2 _ none) (fun r e=>by cases e)
   have hk3:KeepsWalks w2 W3:=by rw[←hW3]; exact KeepsWalks.alloc _ _
   have hz3:W3.heap[w2.heap.size]? = some (.cells #[.int .i64 x1,.int .i64 x2] 132 (0,0)):=by rw[←hW3]; exact q5z w2 _
   have y0:=zc 0 hz3
   have y1:=zc 1 hz3
   obtain⟨fn,tmps,assign,body,hy,hR⟩:=hY done (x1,x2) W3 hJ3 hlt
   unfold defV at hy
   dsimp only at hy
   have HR:=zh hR
   have HMs:=zh hms
   have HR2:=zh hr2
   have HK3:=zh hk3
   clear hR hms hr2 hg2 hJ2 hJ3 hlt hk3 hz3
   gi_wp2
   clear hW3 hrun hent
   refine HR.out.mono ?_
   rintro e W4 (⟨rfl,hJ4,hk4⟩ | ⟨rfl,hJx4⟩)
   ·have HRel1:Hid (q55z W4 b W.heap.size ls (done ++ [(x1,x2)])∧J (done ++ [(x1,x2)]) W4):=⟨HR2.out.of_walks (HK3.out.trans hk4),hJ4⟩
    have HM4:Hid (W4.rangeLeft b W.heap.size<wr.rangeLeft b W.heap.size):=by
     show _<_
     rw[HR2.out.left_walks (HK3.out.trans hk4)]
     exact HMs.out
    clear hJ4 hk4
    gi_wp2
    go_roundw
    case rel=>exact⟨_,HRel1⟩
    case measure=>exact HM4.out
   ·have HX:=zh hJx4
    clear hJx4
    gi_wp2
    refine bodyPost_ret (results_none rfl _ _ _) rfl ?_
    exact⟨⟨_,rfl⟩,.inr ⟨_,trivial,HX.out⟩⟩
theorem dkeys_stops (F:Fence) (n:Nat) (h10:F.fn 154) (hro:F.round=none) (hn:1≤n) (Bm b:Nat) (ls:List (Int×Int)) (w:World) (hBm:Bm<w.heap.size) (hm:w.cell? ⟨Bm,0,none⟩=some (.map (some b))) (hd:q59z w b ls) :
 SeqStopsK F n Tryz.prog 154 #[.pointer (some ⟨Bm,0,none⟩)] (fun x:Int×Int=>#[defV x]) KeepsWalks (fun xs=>xs.Perm ls) (fun _=>True) ls.length w:=fun y J Jx W hW hJ _ hY h0=>
 dkeys1_in F n h10 hro hn y Bm b ls J Jx W hJ hY ((hW.cell (p:=⟨Bm,0,none⟩) hBm).trans hm) (hd.old (hW.block b hd.lt)) h0
theorem box2_own (Bx:Nat) (x:Int×Int) {X Y:World} {row:Option Nat} (h:X.heap[Bx]? = some (.cells #[.int .i64 x.1,.int .i64 x.2] 132 (0,0))) (hg:X.grownBy Y row) (hr:∀r,row=some r→∃o:Obj,X.heap[r]? = some o∧o.isCells=false):Y.heap[Bx]? = some (.cells #[.int .i64 x.1,.int .i64 x.2] 132 (0,0)):=
 (hg.block Bx (Array.getElem?_eq_some_iff.1 h).1 (fun e=>by
   obtain⟨o,ho,hc⟩:=hr Bx e.symm
   rw[h] at ho
   cases ho
   cases hc)).trans h
theorem dappend_in (F:Fence) (n:Nat) (h11:F.fn 153) (h10:F.fn 154) (hro:F.round=none) (hn:2≤n) (Bm b:Nat) (ls:List (Int×Int)) (hls:ls.length≤1000000) (w:World) (hBm:Bm<w.heap.size) (hm:w.cell? ⟨Bm,0,none⟩=some (.map (some b))) (hd:q59z w b ls) :
 CallsIn F n Tryz.prog 153 #[.slice none 0 0,.func (.func 154) #[] #[.pointer (some ⟨Bm,0,none⟩)]] w fun e w'=>∃v xs,e = .returned v∧xs.Perm ls∧OwnR 132 2 defC w.heap.size w' v xs∧Below w.heap.size w w':=by
 have h1:1≤n:=by omega
 obtain⟨i0,hi,hz0,hz1,hz2⟩:=info_parts infoDef
 refine callsIn_of_wp_marks Tryz.func153 rfl h11 ?_ hro
 simp only[Tryz.ntmps153,List.size_toArray,List.length_cons,List.length_nil,Nat.reduceAdd,Nat.reduceSub,Array.replicate_succ,Array.replicate_zero,List.push_toArray,List.append_toArray,List.nil_append,List.cons_append]
 gi_wp2
 have bO:=Boxed.new w 42 (.slice none 0 0)
 have hB0:Below w.heap.size w (w.alloc (.cells #[.slice none 0 0] 42)):=(Below.refl _ w).alloc (Nat.le_refl _) _
 have hsz:(w.alloc (.cells #[.slice none 0 0] 42)).heap.size=w.heap.size+1:=by simp
 have hst:=dkeys_stops F (n-1) h10 hro (by omega) Bm b ls (w.alloc (.cells #[.slice none 0 0] 42)) (by rw[hsz]; omega) ((hB0.cell (p:=⟨Bm,0,none⟩) hBm).trans hm) (hd.old (hB0.block b hd.lt))
 obtain⟨W0,hW0⟩:=zx (w.alloc (.cells #[.slice none 0 0] 42))
 rw[hW0] at bO hB0 hsz hst ⊢
 clear hW0 hm hd
 refine wpIn_rangeFunc_ownH hro h1 (gf:=154) (lb:=#[.pointer (some ⟨Bm,0,none⟩)]) rfl h10 (enters_of Tryz.func154 (by kernel_rfl) rfl)
  hst walksK_t (fun W l o o' a b c d=>walksK_b (w:=W0) W l o o' a b c d) (Below.refl _ _) (fun _=>rfl)
  (fun pre W=>(∃v,Boxed W w.heap.size 42 v∧W.ownsRow w.heap.size 132 2 v pre.length (pre.flatMap defC)∧True)∧Below w.heap.size w W)
  (fun _ _ _=>False)
  (OwnFrom.and (Own.from (holdsRow_own w.heap.size w.heap.size 42 132 2 (fun pre:List (Int×Int)=>pre.length) (fun pre=>pre.flatMap defC) (fun _ _=>True)) _) (ownFrom_below (Nat.le_refl _) (by omega)))
  (fun _ _ _ _ _ hs _ _=>hs)
  ⟨⟨_,bO,World.ownsRow_nil _ _ _ _,trivial⟩,hB0⟩
  (fun x a' W=>∃Bx,w.heap.size<Bx∧W.heap[Bx]? = some (.cells #[.int .i64 x.1,.int .i64 x.2] 132 (0,0))∧a' = { tmps:=#[.slice none 0 0,.func (.func 154) #[] #[.pointer (some ⟨Bm,0,none⟩)],.pointer (some ⟨w.heap.size,0,none⟩),undef,.slice none 0 0,.pointer (some ⟨Bx,0,none⟩),.func (.func 154) #[] #[.pointer (some ⟨Bm,0,none⟩)],defV x,undef,undef,undef,undef,undef],defers:=[] })
  (fun x a' _ X Y row hs hg hr=>by obtain⟨Bx,g1,g2,g3⟩:=hs; exact⟨Bx,g1,box2_own Bx x g2 hg (fun r e=>(hr r e).2),g3⟩)
  ?assign ?body ?done ?stop
 case assign=>
  rintro l pre ⟨x1,x2⟩ W K ⟨⟨v,hv,hrow,-⟩,hB⟩ hK
  unfold defV
  dsimp only
  gi_wp2_with (rw[Oper.semAt_eq _ _ _ (fun c h=>by cases h)]; go_simp; try go_bits)
  exact hK _ _ ((KeepsOthers.alloc _ _).from _) (KeepsWalks.alloc _ _) ⟨⟨v,hv.alloc _,hrow.alloc _,trivial⟩,hB.alloc hB.size _⟩ ⟨W.heap.size,hv.lt,q5z W _,rfl⟩
 case body=>
  rintro l pre ⟨x1,x2⟩ a' W hl hr ⟨⟨v,hv,hrow,-⟩,hB⟩ ⟨Bx,hBx,bX,rfl⟩ hlt
  dsimp only at bX
  have hc:=hv.cell
  have y0:=zc 0 bX
  have y1:=zc 1 bX
  unfold defV
  dsimp only
  gi_wp2_with (first | (gi_at_builtin; refine wpListIn_append_own _ rfl _ _ 42 rfl w.heap.size 132 i0 (.agg #[.int .i64 0,.int .i64 0]) 2 16 Tryz.underlying42 hi hz0 hz1 hz2 rfl (by decide) _ _ _ rfl (hrow.alloc _) ⟨W.heap.size,0,none⟩ 1 1 [.int .i64 x1,.int .i64 x2] rfl rfl (World.news_of_block (cs:=#[.int .i64 x1,.int .i64 x2]) (t:=132) (fr:=(0,0)) (q5z W _)) (by simp[Value.oneCell']) (by unfold maxLen; omega) (by omega) (by have:=hB.size; simp; omega) ?_; intro v' w1 hown' hgrow _; obtain⟨g',cap',rfl⟩:=ownsRow_succ hown'; obtain⟨hv1,hv2,hr2,hk2,hb2⟩:=hv.appended (by decide) hrow hB.size (Nat.le_refl _) hown' hgrow; have hc1:=hv1.cell; have hf1:=hv1.frozen) | (rw[Oper.semAt_eq _ _ _ (fun c h=>by cases h)]; go_simp; try go_bits))
  exact⟨hk2.from _,hk2.walks,⟨_,hv2,by rw[List.length_append,List.flatMap_append]; exact hr2,trivial⟩,hB.trans hb2⟩
 case done=>
  rintro D xs W hD hp ⟨⟨v,hv,hrow,-⟩,hB⟩ hK
  have hc:=hv.cell
  gi_wp2
  refine⟨by simp,.inl ⟨_,_,rfl,run_takeDeferred hK,?_⟩⟩
  exact⟨_,results_tmp rfl _ _ _,v,xs,rfl,hp,ownsRow_putObj hrow _ hK rfl,hB.trans (belowK_b (w:=w) (Nat.le_refl _) W D _ _ (by omega) hK rfl rfl)⟩
 case stop=>
  rintro D c pre W _ _ h _
  exact h.elim
theorem dcollect_any (Bm b:Nat) (ls:List (Int×Int)) (hls:ls.length≤1000000) (w:World) (hBm:Bm<w.heap.size) (hm:w.cell? ⟨Bm,0,none⟩=some (.map (some b))) (hd:q59z w b ls) :
 Calls Tryz.prog 75 #[.func (.func 154) #[] #[.pointer (some ⟨Bm,0,none⟩)]] w fun e w'=>∃v xs,e = .returned v∧xs.Perm ls∧OwnR 132 2 defC w.heap.size w' v xs∧Below w.heap.size w w':=by
 have ha:=callsIn_wide.1 (dappend_in Fence.wide 5 trivial trivial rfl (by omega) Bm b ls hls w hBm hm hd)
 have HA:=zh ha
 clear ha hm hd hls
 go_enter Tryz.func75,Tryz.ntmps75
 go_wp2_with fail
 refine HA.out.mono ?_
 rintro e w1 ⟨v,xs,rfl,hp,ho,hb⟩
 have HQ:Hid (∃v' xs,Ending.returned v = .returned v'∧xs.Perm ls∧OwnR 132 2 defC w.heap.size w1 v' xs∧Below w.heap.size w w1):=⟨v,xs,rfl,hp,ho,hb⟩
 clear hp ho hb
 go_wp2
 go_ret
 exact HQ.out
theorem dkeys_any (mb:Option Nat) (w:World):Calls Tryz.prog 76 #[.map mb] w fun e w'=>e = .returned (.func (.func 154) #[] #[.pointer (some ⟨w.heap.size,0,none⟩)])∧w' = w.alloc (.cells #[.map mb] 136):=
 callsIn_wide.1 (dkeys_in Fence.wide 5 trivial rfl mb w)
end
