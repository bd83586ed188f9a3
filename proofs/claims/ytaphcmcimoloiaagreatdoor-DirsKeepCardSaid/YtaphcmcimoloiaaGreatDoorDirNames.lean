/-
 DERIVED: THE SHELF's CONTRACTS AT THIS DUMP,IN PLAIN WORDS (tools/lay-plain.mjs out of 'TryzSortM.lean',which tools/lay-shelf.mjs wrote): THE SAME DECLARATIONS UNDER THE SAME NAMES: 'import','namespace','open','def','theorem' AND NOTHING ELSE: no command of the shelf's: FOR A HAND-IN. Each laying: the table of numbers ('.._ren') and one theorem,a field a fact of the dump's own or the kernel's comparison; each contract: ONE APPLICATION.
-/
import Derived.Test.YtaphcmcimoloiaaGreatDoorDirAsk
namespace Go.Proofs
open Go.Shelf
def Tryz.sort114_ren:Go.Shelf.Ren:=⟨fun | 6=>114 | 8=>188 | 9=>187 | 19=>254 | 20=>255 | 21=>245 | 22=>246 | 23=>247 | 24=>248 | 25=>249 | 26=>250 | 27=>251 | 28=>252 | 29=>253 | 36=>294 | 31=>295 | 32=>296 | 37=>297 | 38=>298 | 39=>299 | 41=>327 | n=>n,fun | 27=>28 | 29=>9 | 3=>3 | 32=>290 | 26=>28 | 0=>0 | 44=>338 | 46=>340 | 4=>4 | 36=>332 | 35=>331 | 41=>298 | 5=>5 | 9=>9 | 53=>368 | 57=>372 | 63=>392 | 64=>393 | n=>n,fun | n=>n⟩
theorem Tryz.sort114:Go.Proofs.SlLaysM.n6 Tryz.prog Tryz.sort114_ren:={
 mixed:=by kernel_rfl
 f6:=⟨Tryz.f114.name,by decide,Tryz.func114.trans (congrArg some (by kernel_rfl))⟩
 f8:=Tryz.func188.trans (congrArg some (by kernel_rfl))
 f9:=⟨Tryz.f187.name,by decide,Tryz.func187.trans (congrArg some (by kernel_rfl))⟩
 f19:=Tryz.func254.trans (congrArg some (by kernel_rfl))
 f20:=Tryz.func255.trans (congrArg some (by kernel_rfl))
 f21:=⟨Tryz.f245.name,by decide,Tryz.func245.trans (congrArg some (by kernel_rfl))⟩
 f22:=⟨Tryz.f246.name,by decide,Tryz.func246.trans (congrArg some (by kernel_rfl))⟩
 f23:=⟨Tryz.f247.name,by decide,Tryz.func247.trans (congrArg some (by kernel_rfl))⟩
 f24:=⟨Tryz.f248.name,by decide,Tryz.func248.trans (congrArg some (by kernel_rfl))⟩
 f25:=⟨Tryz.f249.name,by decide,Tryz.func249.trans (congrArg some (by kernel_rfl))⟩
 f26:=⟨Tryz.f250.name,by decide,Tryz.func250.trans (congrArg some (by kernel_rfl))⟩
 f27:=⟨Tryz.f251.name,by decide,Tryz.func251.trans (congrArg some (by kernel_rfl))⟩
 f28:=⟨Tryz.f252.name,by decide,Tryz.func252.trans (congrArg some (by kernel_rfl))⟩
 f29:=⟨Tryz.f253.name,by decide,Tryz.func253.trans (congrArg some (by kernel_rfl))⟩
 f31:=Tryz.func295.trans (congrArg some (by kernel_rfl))
 f32:=Tryz.func296.trans (congrArg some (by kernel_rfl))
 f36:=⟨Tryz.f294.name,by decide,Tryz.func294.trans (congrArg some (by kernel_rfl))⟩
 f37:=⟨Tryz.f297.name,by decide,Tryz.func297.trans (congrArg some (by kernel_rfl))⟩
 f38:=⟨Tryz.f298.name,by decide,Tryz.func298.trans (congrArg some (by kernel_rfl))⟩
 f39:=⟨Tryz.f299.name,by decide,Tryz.func299.trans (congrArg some (by kernel_rfl))⟩
 f41:=⟨Tryz.f327.name,by decide,Tryz.func327.trans (congrArg some (by kernel_rfl))⟩
 t0:=Tryz.underlying0
 a0:=Tryz.isAgg0
 z0:=Tryz.sizeOf0
 v0:=Tryz.zeroValue0
 t3:=Tryz.underlying3
 a3:=Tryz.isAgg3
 z3:=Tryz.sizeOf3
 v3:=Tryz.zeroValue3
 t4:=Tryz.underlying4
 a4:=Tryz.isAgg4
 z4:=Tryz.sizeOf4
 v4:=Tryz.zeroValue4
 t5:=Tryz.underlying5
 a5:=Tryz.isAgg5
 z5:=Tryz.sizeOf5
 v5:=Tryz.zeroValue5
 t9:=Tryz.underlying9
 a9:=Tryz.isAgg9
 z9:=Tryz.sizeOf9
 v9:=Tryz.zeroValue9
 t26:=Tryz.underlying28
 a26:=Tryz.isAgg28
 z26:=Tryz.sizeOf28
 v26:=Tryz.zeroValue28
 t27:=Tryz.underlying28
 a27:=Tryz.isAgg28
 z27:=Tryz.sizeOf28
 v27:=Tryz.zeroValue28
 t29:=Tryz.underlying9
 a29:=Tryz.isAgg9
 z29:=Tryz.sizeOf9
 v29:=Tryz.zeroValue9
 t32:=Tryz.underlying290
 a32:=Tryz.isAgg290
 z32:=Tryz.sizeOf290
 v32:=Tryz.zeroValue290
 t35:=Tryz.underlying331
 a35:=Tryz.isAgg331
 z35:=Tryz.sizeOf331
 v35:=Tryz.zeroValue331
 t36:=Tryz.underlying332
 a36:=Tryz.isAgg332
 z36:=Tryz.sizeOf332
 v36:=Tryz.zeroValue332
 t41:=Tryz.underlying298
 a41:=Tryz.isAgg298
 z41:=Tryz.sizeOf298
 v41:=Tryz.zeroValue298
 t44:=Tryz.underlying338
 a44:=Tryz.isAgg338
 z44:=Tryz.sizeOf338
 v44:=Tryz.zeroValue338
 t46:=Tryz.underlying340
 a46:=Tryz.isAgg340
 z46:=Tryz.sizeOf340
 v46:=Tryz.zeroValue340
 t53:=Tryz.underlying368
 a53:=Tryz.isAgg368
 z53:=Tryz.sizeOf368
 v53:=Tryz.zeroValue368
 t57:=Tryz.underlying372
 a57:=Tryz.isAgg372
 z57:=Tryz.sizeOf372
 v57:=Tryz.zeroValue372
 t63:=Tryz.underlying392
 a63:=Tryz.isAgg392
 z63:=Tryz.sizeOf392
 v63:=Tryz.zeroValue392
 t64:=Tryz.underlying393
 a64:=Tryz.isAgg393
 z64:=Tryz.sizeOf393
 v64:=Tryz.zeroValue393 }
end Go.Proofs
namespace Go.Proofs.YtaphcmcimoloiaaGreatDoor
open Go Go.RowKit Txt Sp Go.Sort
def sortL (L:List ByteArray):List ByteArray:=((L.map (·.data.toList)).mergeSort (fun x y=>decide (x≤y))).map (fun b=>⟨b.toArray⟩)
theorem sortL_enc (L:List ByteArray):(sortL L).map Value.string=((L.map (·.data.toList)).mergeSort (fun x y=>decide (x≤y))).map encStr:=by
 unfold sortL
 rw[List.map_map]
 rfl
theorem sortL_perm (L:List ByteArray):(sortL L).Perm L:=by
 have h:=(List.mergeSort_perm (L.map (·.data.toList)) (fun x y=>decide (x≤y))).map (fun b:List UInt8=>(⟨b.toArray⟩:ByteArray))
 refine h.trans ?_
 rw[List.map_map]
 refine(List.Perm.of_eq (List.map_congr_left (g:=id) (fun x _=>?_))).trans (List.Perm.of_eq (List.map_id L))
 show(⟨x.data.toList.toArray⟩:ByteArray)=x
 rfl
theorem sortTexts_any {W:World} {base:Nat} {v:Value} {L:List ByteArray} (ho:W.ownsRow base 9 1 v L.length (L.map Value.string)) (hl:L.length≤1000000) :
 Calls Tryz.prog 114 #[v] W fun e w'=>e = .returned (.tuple #[])∧w'.ownsRow base 9 1 v L.length ((sortL L).map Value.string)∧W.grownBy w' v.ownBlock:=by
 rcases ho.2 with ⟨rfl,h0⟩ | ⟨g,cap,cur,rfl,hbase,hgb,h1,h2,h3,h4⟩
 ·have hL:L=[]:=List.length_eq_zero_iff.1 h0
  subst hL
  refine(Go.Proofs.AnyM.slices_Sort_string_none Tryz.sort114 none 0 W).mono ?_
  rintro e w' ⟨rfl,rfl⟩
  have e:sortL []=[]:=(sortL_perm []).eq_nil
  rw[e]
  exact⟨rfl,World.ownsRow_nil _ _ _ _,⟨rfl,rfl,rfl,Nat.le_refl _,fun _ _ _=>rfl⟩⟩
 ·obtain⟨ss,hss⟩:∃ss,L.map (·.data.toList)=ss:=⟨_,rfl⟩
  have hmap:L.map Value.string=ss.map encStr:=by
   rw[←hss,List.map_map]
   refine List.map_congr_left (fun x _=>?_)
   show Value.string x=encStr x.data.toList
   unfold encStr
   congr 1
  have hlss:ss.length=L.length:=by rw[←hss,List.length_map]
  have h4':=h4
  rw[hmap] at h4'
  have hH:Holds encStr W g 0 ss.toArray:=holds_of_block hgb (by simpa [hlss] using h4')
  have hc:=Go.Proofs.AnyM.slices_Sort_string Tryz.sort114 g 0 cap ss W hH (Array.getElem?_eq_some_iff.1 hgb).1 (by omega)
  rw[hlss] at hc
  refine hc.mono ?_
  rintro e w' ⟨rfl,n,os,rfl⟩
  have hr:=ownsRow_sorted (base:=base) (ss:=ss) (os:=os) (n:=n) (ts:=ss.mergeSort fun x y=>decide (x≤y)) (by simp) hbase hgb (by rw[hlss]; exact h1) h2 h3
  refine⟨rfl,?_,grownBy_sorted (w:=W) (g:=g) (n:=n) (os:=os) (ss.mergeSort fun x y=>decide (x≤y)).toArray⟩
  rw[sortL_enc,hss]
  rw[hlss] at hr
  exact hr
end Go.Proofs.YtaphcmcimoloiaaGreatDoor
namespace Go.Proofs.YtaphcmcimoloiaaGreatDoor
open Go Go.RowKit Go.Shelf Txt Sp
attribute [local go_sem] Oper.semAt_some
def q62z (es:List Ent):List ByteArray:=(es.filter (fun e=>decide (0<e.inode))).map Ent.name
def strC (s:ByteArray):List Value:=[.string s]
def NamesPost (w:World) (es:List Ent) (e:Ending) (w':World):Prop:=∃v,e = .returned (.tuple #[v,.int .i64 0])∧OwnR 9 1 strC w.heap.size w' v (sortL (q62z es))∧Below w.heap.size w w'
theorem ents_len (V:Int→ByteArray):∀l:List Int,(l.flatMap (entsB V)).length=4*l.length
 | []=>rfl
 | x :: l=>by rw[List.flatMap_cons,List.length_append,ents_len V l]; show 4+_=_; rw[List.length_cons]; omega
theorem flat_str (l:List ByteArray):l.flatMap strC=l.map Value.string:=by
 induction l with
 | nil=>rfl
 | cons x l ih=>rw[List.flatMap_cons,ih]; rfl
def NamesI (w1:World) (B:Nat) (pre:List Ent) (W:World):Prop:=
 (∃v,Boxed W w1.heap.size 28 v∧W.ownsRow w1.heap.size 9 1 v (q62z pre).length ((q62z pre).flatMap strC)∧True)∧Below w1.heap.size w1 W∧Boxed W (w1.heap.size+1) 180 (.pointer (some ⟨B,0,none⟩))
def NamesA (w w1:World) (Bs B:Nat) (ga gb gc i:Int) (x:Ent) (a:Act) (W:World):Prop:=
 ∃Bx,W.heap[Bx]? = some (.cells #[.int .i64 x.inode,.int .i64 x.sec,.int .i64 (x.slot:Int)] 72 (0,0)) ∧
  a = { tmps:=#[.pointer (some ⟨Bs,0,none⟩),.agg #[.int .i64 ga,.int .i64 gb,.int .i64 gc],.int .i64 i,undef,.pointer (some ⟨w.heap.size,0,none⟩),undef,.slice none 0 0,.int .i64 0,.pointer (some ⟨B,0,none⟩),.int .i64 0,.pointer (some ⟨w1.heap.size,0,none⟩),.pointer (some ⟨Bx,0,none⟩),.string x.name,.tuple #[.pointer (some ⟨B,0,none⟩),.int .i64 0],.pointer (some ⟨Bs,0,none⟩),.agg #[.int .i64 ga,.int .i64 gb,.int .i64 gc],.int .i64 i,.tuple #[.pointer (some ⟨B,0,none⟩),.int .i64 0],.pointer (some ⟨B,0,none⟩),.int .i64 0,.int .i64 0,.bool false,undef,.pointer (some ⟨B,0,none⟩),.func (.func 186) #[] #[.pointer (some ⟨w1.heap.size+1,0,none⟩)],.agg #[.int .i64 x.inode,.int .i64 x.sec,.int .i64 (x.slot:Int)],.string x.name,undef,undef,undef,undef,undef,undef,undef,undef,undef,undef],defers:=[] }
theorem namesE_hit {pre:List Ent} {x:Ent} (h:0<x.inode):q62z (pre ++ [x])=q62z pre ++ [x.name]:=by unfold q62z; rw[List.filter_append,List.map_append]; simp[h]
theorem namesE_miss {pre:List Ent} {x:Ent} (h:x.inode≤0):q62z (pre ++ [x])=q62z pre:=by
 unfold q62z
 rw[List.filter_append,List.map_append]
 have h2:¬0<x.inode:=by omega
 simp[h2]
theorem namesE_le (pre:List Ent):(q62z pre).length≤pre.length:=by unfold q62z; rw[List.length_map]; exact List.length_filter_le _ _
theorem infoStr:(Tryz.prog.info? 9).map (fun i=>(i.zero,i.size,i.bytes))=some (some (.string ⟨#[]⟩),1,16):=by kernel_rfl
theorem namesI_own {w1:World} {B n:Nat} (hn:w1.heap.size≤n):OwnFrom n (NamesI w1 B):=
 OwnFrom.and (Own.from (holdsRow_own w1.heap.size w1.heap.size 28 9 1 (fun pre:List Ent=>(q62z pre).length) (fun pre=>(q62z pre).flatMap strC) (fun _ _=>True)) _) (OwnFrom.and (ownFrom_below (Nat.le_refl _) hn) (Own.from (boxed_own (w1.heap.size+1) 180 (fun _=>.pointer (some ⟨B,0,none⟩))) _))
section
set_option maxHeartbeats 4000000
set_option maxRecDepth 100000
theorem dirNames_in {w:World} {base Bs Bd:Nat} {S:Sp.Side} {D:Nat→Prop} (h:SideAt w base Bs Bd S D) {g:Sp.Geom} {i:Int} {F:File} (hs:Stands S g i F) (hd:DirOk S.read F) (hb:∀b∈F.blocks,0≤b) (hh:∀b∈q19z F,S.disk.has b) (hm:MaxOk w) :
 CallsIn Fence.wide 5 Tryz.prog 37 #[pt Bs,gV g,.int .i64 i] w (NamesPost w (ents S.read F)):=by
 have hop:=fun(W:World) (hW:Below w.heap.size w W)=>callsIn_wide (n:=4).2 (q154z (h.below hW) hs hd hb hh (hm.below hW))
 obtain⟨es,hes⟩:∃es,ents S.read F=es:=⟨_,rfl⟩
 have hes2:(q19z F).flatMap (entsB S.read)=es:=hes
 have hes16:es.length≤1000000:=by
  rw[←hes2,ents_len]
  have h1:(q19z F).length≤F.blocks.length:=Nat.le_trans (List.length_filter_le _ _) (by rw[List.length_take]; omega)
  have h2:=hs.file.len
  omega
 rw[hes]
 unfold q112z at hop
 obtain⟨V,hV⟩:∃V,S.read=V:=⟨_,rfl⟩
 obtain⟨bl,hbl⟩:∃bl,q19z F=bl:=⟨_,rfl⟩
 obtain⟨nd,hnd⟩:∃nd,F.node=nd:=⟨_,rfl⟩
 rw[hV,hbl,hnd] at hop
 rw[hV,hbl] at hes2
 obtain⟨ga,gb,gc⟩:=g
 unfold gV pt at *
 dsimp only at hop
 have HOP:=Lib.hid hop
 clear hop
 clear h hs hd hb hh hm hes hV hbl hnd
 obtain⟨W0,hW0⟩:∃W,w.alloc (.cells #[.int .i64 ga,.int .i64 gb,.int .i64 gc] 27)=W:=⟨_,rfl⟩
 have HB0:Hid (Below w.heap.size w W0):=by rw[←hW0]; exact bl2 _
 have hg0:W0.heap[w.heap.size]? = some (.cells #[.int .i64 ga,.int .i64 gb,.int .i64 gc] 27 (0,0)):=by
  rw[←hW0]
  exact q2z w _
 have z0:=cellOf (k:=0) hg0 rfl
 have z1:=cellOf (k:=1) hg0 rfl
 have z2:=cellOf (k:=2) hg0 rfl
 clear hg0
 refine callsIn_of_wp_marks Tryz.func37 rfl trivial ?_ rfl
 simp only[Tryz.ntmps37,List.size_toArray,List.length_cons,List.length_nil,Nat.reduceAdd,Nat.reduceSub,Array.replicate_succ,Array.replicate_zero,List.push_toArray,List.append_toArray,List.nil_append,List.cons_append]
 gi_wp2_with fail
 clear z0 z1 z2 hW0
 refine⟨trivial,(HOP.out W0 HB0.out).mono ?_⟩
 rintro e w1 ⟨B,rfl,hda,hb1⟩
 have HB1:Hid (Below w.heap.size w w1):=HB0.out.trans (hb1.mono HB0.out.size)
 have HDA:=Lib.hid hda
 clear hda hb1
 gi_wp2_with (refine⟨trivial,(dall_in Fence.wide 4 trivial rfl B _).mono ?_⟩; rintro e w' ⟨rfl,rfl⟩)
 obtain⟨i0,hi,hz0,hz1,hz2⟩:=info_parts infoStr
 obtain⟨W2,hW2⟩:∃W,(w1.alloc (.cells #[.slice none 0 0] 28)).alloc (.cells #[.pointer (some ⟨B,0,none⟩)] 180)=W:=⟨_,rfl⟩
 have hsz:W2.heap.size=w1.heap.size+2:=by rw[←hW2]; simp
 have hI0:NamesI w1 B [] W2:=by
  rw[←hW2]
  have b1:=Boxed.new w1 28 (.slice none 0 0)
  have b2:=Boxed.new (w1.alloc (.cells #[.slice none 0 0] 28)) 180 (.pointer (some ⟨B,0,none⟩))
  rw[World.size_alloc] at b2
  exact⟨⟨_,b1.alloc _,World.ownsRow_nil _ _ _ _,trivial⟩,(bl2 _).alloc (by simp) _,b2⟩
 rw[hW2]
 clear hW2
 have hst:=dall_stops Fence.wide 4 trivial rfl (by omega) (w1.heap.size+1) B _ nd V bl w1 W2 HDA.out hI0.2.1 hI0.2.2
 rw[hes2] at hst
 clear hes2
 have hro:Fence.wide.round=none:=rfl
 refine wpIn_rangeFunc_ownH hro (by omega) (gf:=186) (lb:=#[.pointer (some ⟨w1.heap.size+1,0,none⟩)]) rfl trivial (enters_of Tryz.func186 (by kernel_rfl) rfl)
  hst keepsBox_t (keepsBox_b (w:=W2) (by omega) (by omega)) (Below.refl _ _) (fun _=>rfl)
  (NamesI w1 B) (fun _ _ _=>False)
  (namesI_own (by omega))
  (fun _ _ _ _ _ hs _ _=>hs)
  hI0
  (NamesA w w1 Bs B ga gb gc i)
  (fun x a' _ X Y row hs hg hr=>by obtain⟨Bx,g2,g3⟩:=hs; exact⟨Bx,cells_kept g2 hg (fun k e=>(hr k e).2),g3⟩)
  ?assign ?body ?done ?stop
 case assign=>
  rintro l pre x W K hI hK
  unfold entV
  dsimp only
  gi_wp2_with (rw[Oper.semAt_eq _ _ _ (fun c h=>by cases h)]; go_simp; try go_bits)
  exact hK _ _ ((KeepsOthers.alloc _ _).from _) ⟨(Below.refl _ _).alloc hI.2.1.size _,fun hb=>Below.heap_alloc _ _ _ hb⟩ ⟨by obtain⟨⟨v,g1,g2,g3⟩,-⟩:=hI; exact⟨v,g1.alloc _,g2.alloc _,g3⟩,hI.2.1.alloc hI.2.1.size _,hI.2.2.alloc _⟩ ⟨W.heap.size,q2z W _,rfl⟩
 case body=>
  rintro l pre x a' W hl hr ⟨⟨v,hv,hrow,-⟩,hB,hbd⟩ ⟨Bx,bX,rfl⟩ hlt
  have hlen:=namesE_le pre
  have hc:=hv.cell
  have y0:=cellOf (k:=0) bX rfl
  by_cases hx:0<x.inode
  ·gi_wp2_with (first | (gi_at_builtin; refine wpListIn_append_own _ rfl _ _ 28 rfl w1.heap.size 9 i0 (.string ⟨#[]⟩) 1 16 Tryz.underlying28 hi hz0 hz1 hz2 rfl (by decide) _ _ _ rfl (hrow.alloc _) ⟨W.heap.size,0,none⟩ 1 1 [.string x.name] rfl rfl (cell_one_new _ _ _) (by simp[Value.oneCell']) (by unfold maxLen; omega) (by omega) (by have:=hB.size; simp; omega) ?_; intro v' w5 hown' hgrow _; obtain⟨g',cap',rfl⟩:=ownsRow_succ hown'; obtain⟨hv1,hv2,hr2,hk2,hb2⟩:=hv.appended (by decide) hrow hB.size (Nat.le_refl _) hown' hgrow; have hc1:=hv1.cell; have hf1:=hv1.frozen; have hbd2:∀u,Boxed (w5.setCell ⟨w1.heap.size,0,none⟩ u) (w1.heap.size+1) 180 (.pointer (some ⟨B,0,none⟩)):=fun u=>((hbd.alloc _).kept hgrow (hbd.not_row (by decide) hrow)).other (B':=w1.heap.size) (by omega) u) | (rw[Oper.semAt_eq _ _ _ (fun c h=>by cases h)]; go_simp; try go_bits))
   refine⟨hk2.from _,⟨hb2,fun _=>?_⟩,⟨_,hv2,by rw[namesE_hit hx,List.length_append,List.flatMap_append]; exact hr2,trivial⟩,hB.trans hb2,hbd2 _⟩
   exact(hbd2 _).trans hbd.symm
  ·gi_wp2_with (rw[Oper.semAt_eq _ _ _ (fun c h=>by cases h)]; go_simp; try go_bits)
   exact⟨KeepsFrom.refl _ _,⟨Below.refl _ _,fun _=>rfl⟩,⟨v,hv,by rw[namesE_miss hx]; exact hrow,trivial⟩,hB,hbd⟩
 case done=>
  rintro D xs W hD rfl ⟨⟨v,hv,hrow,-⟩,hB,hbd⟩ hK
  have hc:=hv.cell
  have hlen:=namesE_le xs
  rw[flat_str] at hrow
  have hso:=callsIn_wide (n:=4).2 (sortTexts_any hrow (by omega))
  gi_wp2_with fail
  refine⟨trivial,hso.mono ?_⟩
  rintro e w8 ⟨rfl,hr8,hg8⟩
  have hown:∀k,v.ownBlock=some k→w1.heap.size≤k∧∃cs e fr,W.heap[k]? = some (.cells cs e fr):=fun k hk=>by
   rcases hrow.2 with ⟨rfl,_⟩ | ⟨g,cap,cur,rfl,hbase,hgb,_⟩
   ·cases hk
   ·cases hk
    exact⟨hbase,_,_,_,hgb⟩
  have hK8:w8.heap[D]? = some (.deferred (some [])):=(hg8.block D (Array.getElem?_eq_some_iff.1 hK).1 (fun e=>by
   obtain⟨-,cs,e',fr,h⟩:=hown D e.symm
   rw[hK] at h
   cases h)).trans hK
  have hB8:Below w1.heap.size w1 w8:=hB.grown hg8 hB.size (fun k e=>(hown k e).1)
  have hsz8:=HB1.out.size
  have hfin:NamesPost w xs (.returned (.tuple #[v,.int .i64 0])) (w8.putObj D (.deferred none)):=by
   refine⟨v,rfl,?_,HB1.out.trans ((hB8.mono hsz8).trans (belowK_b (w:=w) (Nat.le_refl _) w8 D _ _ (by omega) hK8 rfl rfl))⟩
   refine OwnR.mono (n:=w1.heap.size) ?_ hsz8
   unfold OwnR
   rw[flat_str,(sortL_perm _).length_eq]
   exact ownsRow_putObj hr8 _ hK8 rfl
  have HFin:=Lib.hid hfin
  have hc8:w8.cell? ⟨w1.heap.size,0,none⟩=some v:=(hv.kept hg8 (hv.not_row (by decide) hrow)).cell
  clear hfin hB8 hown hr8 hg8
  gi_wp2
  refine⟨by simp,.inl ⟨_,_,rfl,run_takeDeferred hK8,?_⟩⟩
  refine⟨.tuple #[v,.int .i64 0],?_,HFin.out⟩
  first | exact(results_tmp2 rfl _ _ _).trans rfl | (simp[results,Tryz.results37,go_sem]; done)
 case stop=>
  rintro D c pre W _ _ h _
  exact h.elim
theorem dirNames_any {w:World} {base Bs Bd:Nat} {S:Sp.Side} {D:Nat→Prop} (h:SideAt w base Bs Bd S D) {g:Sp.Geom} {i:Int} {F:File} (hs:Stands S g i F) (hd:DirOk S.read F) (hb:∀b∈F.blocks,0≤b) (hh:∀b∈q19z F,S.disk.has b) (hm:MaxOk w) :
 Calls Tryz.prog 37 #[pt Bs,gV g,.int .i64 i] w (NamesPost w (ents S.read F)):=callsIn_wide.1 (dirNames_in h hs hd hb hh hm)
end
end Go.Proofs.YtaphcmcimoloiaaGreatDoor
