import Derived.Test.YtgofmnhfajmbfaaGreatDoorBmB
import Derived.Test.YtgofmnhfajmbfaaGreatDoorInodeDec
import Derived.Test.YtgofmnhfajmbfaaGreatDoorDiskWrite
import Derived.Test.YtgofmnhfajmbfaaGreatDoorSpReads
set_option maxRecDepth 20000
set_option maxHeartbeats 4000000
namespace Go.Proofs.YtgofmnhfajmbfaaGreatDoor
open Go Go.RowKit Txt Sp
/-- The file F stands whole in the inode i of a side. -/
structure Stands (S:Sp.Side) (g:Sp.Geom) (i:Int) (F:File):Prop where
 gok:g.ok
 ok:S.Ok
 i1:1≤i
 i2:i≤g.groups*g.inodes
 has:S.disk.has (q1z g i)
 file:FileOk S.read (q1z g i) F
 fits:F.node.fits g
 hasm:F.more≠0→S.disk.has F.more
 blk:∀b∈F.blocks,q22z g b
theorem inodeAt_in {g:Sp.Geom} (hg:g.ok) {i:Int} (h1:1≤i) (h2:i≤g.groups*g.inodes):(q33z g i).1=q1z g i∧(q33z g i).2.2.2=0:=by
 have hm:=Geom.many_ok hg
 unfold q33z Geom.within
 rw[if_pos hg,hm,if_neg (show ¬(i<0∨g.groups*g.inodes+1≤i) by omega),if_pos rfl,if_neg (show ¬i=0 by omega)]
 exact⟨rfl,rfl⟩
section
theorem bseen_any {w:World} {base B Bd:Nat} {S:Sp.Side} {D:Nat→Prop} (h:SideAt w base B Bd S D) (hS:S.Ok) {j:Int} (hj:S.disk.has j) :
 Calls Tryz.prog 164 #[pt B,.int .i64 j] w fun e w'=>e = .returned (.string (S.read j))∧Below w.heap.size w w':=by
 have hr:=softRead_any h hS j
 unfold Sp.Side.readC Sp.Disk.readC at hr
 rw[if_pos hj] at hr
 unfold pt at hr ⊢
 have HR:=zh hr
 clear hr
 clear h hS hj
 go_enter Tryz.func164,Tryz.ntmps164
 go_wp2_with fail
 refine HR.out.mono ?_
 rintro e w1 ⟨rfl,hb1⟩
 have HB1:=zh hb1
 clear hb1
 go_wp2
 go_ret
 exact⟨rfl,HB1.out⟩
def LoadCut (w:World) (vs:List Value) (c s:Value) (wx:World):Prop:=c = .int .i64 0∧∃q,s = .pointer (some ⟨q,0,none⟩)∧wx.heap[q]? = some (.cells vs.toArray 69 (0,0))∧Below w.heap.size w wx
theorem load_new {w wx:World} {vs:List Value} (hb:Below w.heap.size w wx):LoadCut w vs (.int .i64 0) (.pointer (some ⟨wx.heap.size,0,none⟩)) (wx.alloc (.cells vs.toArray 69)):=⟨rfl,_,rfl,heapNew wx _,bl1 hb _⟩
theorem load_sets {w wx:World} {vs:List Value} {q:Nat} {cs:Array Value} (hb:Below w.heap.size w wx) (hq:w.heap.size≤q) (hz:wx.heap[q]? = some (.cells cs 69 (0,0))) (hl:vs.length=cs.size):LoadCut w vs (.int .i64 0) (.pointer (some ⟨q,0,none⟩)) (sets wx q 0 vs):=
 ⟨rfl,q,rfl,q45z hz hl,q40z hq vs 0 wx hb⟩
theorem first_zeroI {w w5:World} {cs:Array Value} {e:TypeId} (hb:Below (w.alloc (.cells cs e)).drew.heap.size (w.alloc (.cells cs e)).drew w5):w5.heap[w.heap.size]? = some (.cells cs e (0,0)):=heapOld (blN (blD (Below.refl _ _)) hb) (heapNew w _)
theorem next_zeroI {w w5:World} {cs:Array Value} {e:TypeId} (hb:Below (w.alloc (.cells cs e)).heap.size (w.alloc (.cells cs e)) w5):w5.heap[w.heap.size]? = some (.cells cs e (0,0)):=heapOld hb (heapNew w _)
theorem sets14 {w0 w:World} {B b:Nat} (hB:B≤b) (h:Below B w0 w) {v0 v1 v2 v3 v4 v5 v6 v7 v8 v9 v10 v11 v12 v13:Value}:Below B w0 ((((((((((((((w.setCell ⟨b,0,none⟩ v0).setCell ⟨b,1,none⟩ v1).setCell ⟨b,2,none⟩ v2).setCell ⟨b,3,none⟩ v3).setCell ⟨b,4,none⟩ v4).setCell ⟨b,5,none⟩ v5).setCell ⟨b,6,none⟩ v6).setCell ⟨b,7,none⟩ v7).setCell ⟨b,8,none⟩ v8).setCell ⟨b,9,none⟩ v9).setCell ⟨b,10,none⟩ v10).setCell ⟨b,11,none⟩ v11).setCell ⟨b,12,none⟩ v12).setCell ⟨b,13,none⟩ v13):=
 q40z hB [v0,v1,v2,v3,v4,v5,v6,v7,v8,v9,v10,v11,v12,v13] 0 w h
theorem q96z {w:World} {n:Nat} {cs:Array Value} {e:TypeId} (h:w.heap[n]? = some (.cells cs e (0,0))):(∀k,w.cell? ⟨n,k,none⟩=cs[k]?)∧∀k,w.frozen? ⟨n,k,none⟩=false:=
 ⟨fun k=>by simp[World.cell?,h],fun k=>by simp[World.frozen?,h]⟩
theorem ino_cells {w:World} {n:Nat} (h:w.heap[n]? = some (.cells #[.int .i64 0,.int .i64 0,.int .i64 0,.int .i64 0,.int .i64 0,.int .i64 0,.int .i64 0,.int .i64 0,.int .i64 0,.int .i64 0,.int .i64 0,.int .i64 0,.int .i64 0,.int .i64 0] 69 (0,0))) :
 (∀k,w.cell? ⟨n,k,none⟩=(#[.int .i64 0,.int .i64 0,.int .i64 0,.int .i64 0,.int .i64 0,.int .i64 0,.int .i64 0,.int .i64 0,.int .i64 0,.int .i64 0,.int .i64 0,.int .i64 0,.int .i64 0,.int .i64 0]:Array Value)[k]?)∧∀k,w.frozen? ⟨n,k,none⟩=false:=
 ⟨fun k=>by simp[World.cell?,h],fun k=>by simp[World.frozen?,h]⟩
def q186z:Array Value:=#[.int .i64 0,.int .i64 0,.int .i64 0,.int .i64 0,.int .i64 0,.int .i64 0,.int .i64 0,.int .i64 0,.int .i64 0,.int .i64 0,.int .i64 0,.int .i64 0,.int .i64 0,.int .i64 0]
theorem bload_any {w:World} {base B Bd:Nat} {S:Sp.Side} {D:Nat→Prop} (h:SideAt w base B Bd S D) {g:Sp.Geom} {i:Int} {F:File} (hs:Stands S g i F) :
 Calls Tryz.prog 104 #[pt B,gV g,.int .i64 i] w fun e w'=>e = .returned (.tuple #[.agg (nA F.node),.int .i64 (q1z g i)])∧Below w.heap.size w w':=by
 have hseen:=fun(W:World) (hW:Below w.heap.size w W)=>bseen_any (h.below hW) hs.ok hs.has
 have hino:=fun W:World=>ginode_any W g i
 rw[(inodeAt_in hs.gok hs.i1 hs.i2).1,(inodeAt_in hs.gok hs.i1 hs.i2).2] at hino
 have hd8:F.node.direct.length=8:=by show(F.blocks.take 8).length=8; rw[List.length_take,hs.file.len]; rfl
 have hdec:=fun W:World=>idecode_any W g (S.read (q1z g i))
 rw[hs.file.node] at hseen hdec
 unfold IDec at hdec
 rw[if_pos ⟨hs.gok,isInode_B hs.gok hd8 hs.fits⟩,inodeOf_B hs.gok hd8 hs.fits,if_pos hs.gok,if_pos (isInode_B hs.gok hd8 hs.fits)] at hdec
 have hmu:=fun W:World=>q170z W
 obtain⟨s,hsx⟩:=zx (q28z F.node)
 rw[hsx] at hseen hdec
 obtain⟨sec,hsec⟩:=zx (q1z g i)
 rw[hsec] at hseen hino ⊢
 obtain⟨n,hn⟩:=zx (F.node)
 rw[hn] at hdec ⊢
 clear hs hsx hsec hn hd8 h
 obtain⟨k1,hk1⟩:=zx ((q33z g i).2.1)
 obtain⟨k2,hk2⟩:=zx ((q33z g i).2.2.1)
 rw[hk1,hk2] at hino
 clear hk1 hk2
 unfold nA iA at hdec ⊢
 obtain⟨x0,h0⟩:=zx (n.kind)
 obtain⟨x1,h1⟩:=zx (n.links)
 obtain⟨x2,h2⟩:=zx (n.size)
 obtain⟨x3,h3⟩:=zx (n.parent)
 obtain⟨x4,h4⟩:=zx (n.gen)
 obtain⟨d0,h5⟩:=zx (n.direct.getD 0 0)
 obtain⟨d1,h6⟩:=zx (n.direct.getD 1 0)
 obtain⟨d2,h7⟩:=zx (n.direct.getD 2 0)
 obtain⟨d3,h8⟩:=zx (n.direct.getD 3 0)
 obtain⟨d4,h9⟩:=zx (n.direct.getD 4 0)
 obtain⟨d5,h10⟩:=zx (n.direct.getD 5 0)
 obtain⟨d6,h11⟩:=zx (n.direct.getD 6 0)
 obtain⟨d7,h12⟩:=zx (n.direct.getD 7 0)
 obtain⟨x6,h13⟩:=zx (n.more)
 rw[h0,h1,h2,h3,h4,h5,h6,h7,h8,h9,h10,h11,h12,h13] at hdec ⊢
 clear h0 h1 h2 h3 h4 h5 h6 h7 h8 h9 h10 h11 h12 h13
 obtain⟨ga,gb,gc⟩:=g
 unfold gV at hino hdec ⊢
 unfold pt at hseen ⊢
 obtain⟨W0,hW0⟩:=zg w ga gb gc
 have hk:=q30z hW0
 have HB0:=zh hk.1
 have HK:=zh hk.2
 clear hk
 have hsz:W0.heap.size=w.heap.size+1:=by rw[←hW0]; simp
 obtain⟨W1,hW1⟩:=zx (W0.alloc (.cells q186z 69))
 unfold q186z at hW1
 have HB1:Hid (Below W0.heap.size W0 W1):=by rw[←hW1]; exact bl2 _
 have HZ1:Hid (W1.heap[w.heap.size+1]? = some (.cells q186z 69 (0,0))):=by rw[←hW1,←hsz]; exact heapNew W0 _
 have HSEEN:=zh hseen
 have HINO:=zh hino
 have HDEC:=zh hdec
 have HMU:=zh hmu
 clear hseen hino hdec hmu
 obtain⟨z0,z1,z2⟩:=HK.out W1 HB1.out
 go_enter Tryz.func104,Tryz.ntmps104
 go_wp2_with fail
 clear z0 z1 z2
 refine(HINO.out _).mono ?_
 rintro e w2 ⟨rfl,hb2⟩
 have HB2:Hid (Below W0.heap.size W0 w2):=blN HB1.out hb2
 have HZ2:=zh (heapOld hb2 HZ1.out)
 clear hb2 HZ1 HB1 hW1
 go_wp2_with fail
 refine(HMU.out _).mono ?_
 rintro e w3 ⟨rfl,hw3⟩
 replace hw3:=hw3.symm
 subst hw3
 obtain⟨z0,z1,z2⟩:=HK.out w2 HB2.out
 go_upto_region 5 with fail
 go_cut [11,12] (fun s11 s12 wx=>LoadCut w2 [.int .i64 x0,.int .i64 x1,.int .i64 x2,.int .i64 x3,.int .i64 x4,.int .i64 d0,.int .i64 d1,.int .i64 d2,.int .i64 d3,.int .i64 d4,.int .i64 d5,.int .i64 d6,.int .i64 d7,.int .i64 x6] s11 s12 wx)
 case first=>
  go_region_held3 (fun W=>W.cell? ⟨w.heap.size,0,none⟩=some (.int .i64 ga)∧W.cell? ⟨w.heap.size,1,none⟩=some (.int .i64 gb)∧W.cell? ⟨w.heap.size,2,none⟩=some (.int .i64 gc))
   ((refine HK.out _ (blN HB2.out ?_); repeat' first | with_reducible exact Below.refl _ _ | with_reducible exact HB5.out | with_reducible exact HB6.out | with_reducible refine sets14 HM6.out ?_ | with_reducible refine blD ?_ | with_reducible refine bl1 ?_ _))
   (first
     | (go_at_call 164
        refine(HSEEN.out _ (blN (blN HB0.out HB2.out) ?a1)).mono ?_
        case a1=>repeat' first | with_reducible exact Below.refl _ _ | with_reducible refine blD ?_ | with_reducible refine bl1 ?_ _
        rintro e w5 ⟨rfl,hb5⟩
        have HB5:Hid (Below w2.heap.size w2 w5):=blN (by repeat' first | with_reducible exact Below.refl _ _ | with_reducible refine blD ?_ | with_reducible refine bl1 ?_ _) hb5
        try (with_reducible have hz5:=first_zeroI hb5; have HZ5:=zh hz5; clear hz5)
        clear hb5
        simp only)
     | (go_at_call 148
        refine(HDEC.out _).mono ?_
        rintro e w6 ⟨rfl,hb6⟩
        have HB6:Hid (Below w2.heap.size w2 w6):=blN (by repeat' first | with_reducible exact HB5.out | with_reducible refine blD ?_ | with_reducible refine bl1 ?_ _) hb6
        try (with_reducible have hz6:=next_zeroI hb6; have HZ6:=zh hz6; have HM6:=zh HB5.out.size; obtain⟨y0,y1⟩:=ino_cells hz6; clear hz6)
        try (with_reducible have hz6:=heapOld hb6 HZ5.out; have HZ6:=zh hz6; have HM6:=zh (Nat.le_refl w2.heap.size); obtain⟨y0,y1⟩:=ino_cells hz6; clear hz6)
        clear hb6
        simp only))
  all_goals
   go_wp2_with fail
   go_meet
   case rel=>
    first
     | with_reducible exact load_new HB6.out
     | exact load_sets HB6.out HM6.out HZ6.out rfl
 case rest=>
 obtain⟨rfl,q,rfl,hz,hbc⟩:=hcut
 have hz:wc.heap[q]? = some (.cells #[.int .i64 x0,.int .i64 x1,.int .i64 x2,.int .i64 x3,.int .i64 x4,.int .i64 d0,.int .i64 d1,.int .i64 d2,.int .i64 d3,.int .i64 d4,.int .i64 d5,.int .i64 d6,.int .i64 d7,.int .i64 x6] 69 (0,0)):=hz
 have hz6:=heapOld hbc HZ2.out
 obtain⟨y0,y1⟩:=q96z hz
 obtain⟨v0,v1⟩:=ino_cells hz6
 have HBc:=zh (sets14 (v0:=.int .i64 x0) (v1:=.int .i64 x1) (v2:=.int .i64 x2) (v3:=.int .i64 x3) (v4:=.int .i64 x4) (v5:=.int .i64 d0) (v6:=.int .i64 d1) (v7:=.int .i64 d2) (v8:=.int .i64 d3) (v9:=.int .i64 d4) (v10:=.int .i64 d5) (v11:=.int .i64 d6) (v12:=.int .i64 d7) (v13:=.int .i64 x6) (b:=w.heap.size+1) (Nat.le_succ _) (blN HB0.out (blN HB2.out hbc)))
 have HZf:=zh (q45z hz6 (vs:=[.int .i64 x0,.int .i64 x1,.int .i64 x2,.int .i64 x3,.int .i64 x4,.int .i64 d0,.int .i64 d1,.int .i64 d2,.int .i64 d3,.int .i64 d4,.int .i64 d5,.int .i64 d6,.int .i64 d7,.int .i64 x6]) rfl)
 clear hz hz6 hbc z0 z1 z2
 go_wp2
 obtain⟨Wf,hWf⟩:=zx (((((((((((((((wc.setCell ⟨w.heap.size+1,0,none⟩ (.int .i64 x0)).setCell ⟨w.heap.size+1,1,none⟩ (.int .i64 x1)).setCell ⟨w.heap.size+1,2,none⟩ (.int .i64 x2)).setCell ⟨w.heap.size+1,3,none⟩ (.int .i64 x3)).setCell ⟨w.heap.size+1,4,none⟩ (.int .i64 x4)).setCell ⟨w.heap.size+1,5,none⟩ (.int .i64 d0)).setCell ⟨w.heap.size+1,6,none⟩ (.int .i64 d1)).setCell ⟨w.heap.size+1,7,none⟩ (.int .i64 d2)).setCell ⟨w.heap.size+1,8,none⟩ (.int .i64 d3)).setCell ⟨w.heap.size+1,9,none⟩ (.int .i64 d4)).setCell ⟨w.heap.size+1,10,none⟩ (.int .i64 d5)).setCell ⟨w.heap.size+1,11,none⟩ (.int .i64 d6)).setCell ⟨w.heap.size+1,12,none⟩ (.int .i64 d7)).setCell ⟨w.heap.size+1,13,none⟩ (.int .i64 x6)))
 have hbf:Below w.heap.size w Wf:=by rw[←hWf]; exact HBc.out
 have hzf:Wf.heap[w.heap.size+1]? = some (.cells #[.int .i64 x0,.int .i64 x1,.int .i64 x2,.int .i64 x3,.int .i64 x4,.int .i64 d0,.int .i64 d1,.int .i64 d2,.int .i64 d3,.int .i64 d4,.int .i64 d5,.int .i64 d6,.int .i64 d7,.int .i64 x6] 69 (0,0)):=by rw[←hWf]; exact HZf.out
 rw[hWf]
 obtain⟨u0,-⟩:=q96z hzf
 refine bodyPost_ret (v:=.tuple #[.agg #[.int .i64 x0,.int .i64 x1,.int .i64 x2,.int .i64 x3,.int .i64 x4,.int .i64 d0,.int .i64 d1,.int .i64 d2,.int .i64 d3,.int .i64 d4,.int .i64 d5,.int .i64 d6,.int .i64 d7,.int .i64 x6],.int .i64 sec]) (by simp[results,Tryz.results104,go_sem,u0]) rfl ?_
 exact⟨rfl,hbf⟩
end
theorem list8:∀{l:List Int},l.length=8→l=[l.getD 0 0,l.getD 1 0,l.getD 2 0,l.getD 3 0,l.getD 4 0,l.getD 5 0,l.getD 6 0,l.getD 7 0]
 | [_,_,_,_,_,_,_,_],_=>rfl
theorem iN_node {n:Sp.Inode} (h:n.direct.length=8):iN n.kind n.links n.size n.parent n.gen (n.direct.getD 0 0) (n.direct.getD 1 0) (n.direct.getD 2 0) (n.direct.getD 3 0) (n.direct.getD 4 0) (n.direct.getD 5 0) (n.direct.getD 6 0) (n.direct.getD 7 0) n.more=n:=by
 obtain⟨k,l,z,p,ge,d,m⟩:=n
 have:=list8 h
 unfold iN
 dsimp only at this ⊢
 rw[←this]
theorem splice0 {d:List Int} (hd:d.length=8):Go.splice ((List.replicate 40 (0:Int)).map (Value.int .i64)) 0 (d.map (Value.int .i64))=(d ++ List.replicate 32 0).map (Value.int .i64):=by
 unfold Go.splice
 simp only[List.length_map,hd,List.take_zero,List.nil_append,Nat.zero_add,List.map_append]
 rfl
theorem splice8 {d l:List Int} (hd:d.length=8) (hl:l.length=32):Go.splice (Go.splice ((List.replicate 40 (0:Int)).map (Value.int .i64)) 0 (d.map (Value.int .i64))) 8 (l.map (Value.int .i64))=(d ++ l).map (Value.int .i64):=by
 rw[splice0 hd]
 unfold Go.splice
 rw[List.length_map,hl,List.map_append,List.take_left' (by rw[List.length_map,hd]),List.drop_of_length_le (by simp[hd]),List.append_nil,List.map_append]
theorem run_make40 (W:World):(Instr.makeSlice 58 (.int .i64 40) (.int .i64 40)).run Tryz.prog W = .ok (.slice (some ⟨W.heap.size,0,none⟩) 40 40) (W.alloc (.cells ((List.replicate 40 (0:Int)).map (Value.int .i64)).toArray 3)):=by kernel_rfl
section
def Blocks40 (w:World) (l:List Int) (e:Ending) (w':World):Prop:=
 ∃b,e = .returned (.slice (some ⟨b,0,none⟩) 40 40)∧OwnR 3 1 intC w.heap.size w' (.slice (some ⟨b,0,none⟩) 40 40) l∧Below w.heap.size w w'
theorem bblocks40_any {w:World} {base B Bd:Nat} {S:Sp.Side} {D:Nat→Prop} (h:SideAt w base B Bd S D) {g:Sp.Geom} {i:Int} {F:File} (hs:Stands S g i F) :
 Calls Tryz.prog 173 #[pt B,gV g,.agg (nA F.node)] w (Blocks40 w F.blocks):=by
 have hd8:F.node.direct.length=8:=by show(F.blocks.take 8).length=8; rw[List.length_take,hs.file.len]; rfl
 have hgc:=fun W:World=>q85z W g
 have hck:=fun W:World=>icheck_any W g F.node.kind F.node.links F.node.size F.node.parent F.node.gen (F.node.direct.getD 0 0) (F.node.direct.getD 1 0) (F.node.direct.getD 2 0) (F.node.direct.getD 3 0) (F.node.direct.getD 4 0) (F.node.direct.getD 5 0) (F.node.direct.getD 6 0) (F.node.direct.getD 7 0) F.node.more
 rw[iN_node hd8] at hck
 have hck0:F.node.check g=0:=by unfold Sp.Inode.check; rw[if_pos hs.gok,if_pos hs.fits]
 have hgc0:g.check=0:=by unfold Sp.Geom.check; rw[if_pos hs.gok]
 rw[hck0] at hck
 rw[hgc0] at hgc
 have hmu:=fun W:World=>q170z W
 have hseen:∀W,Below w.heap.size w W→F.node.more≠0→Calls Tryz.prog 164 #[pt B,.int .i64 F.node.more] W fun e w'=>e = .returned (.string (S.read F.node.more))∧Below W.heap.size W w':=fun W hW hm=>bseen_any (h.below hW) hs.ok (hs.hasm hm)
 have hlen:=hs.file.len
 have hb65:∀b∈F.blocks.drop 8,0≤b∧b<65536:=fun b hb=>q151z (hs.blk b (List.mem_of_mem_drop hb))
 have hl32:(F.blocks.drop 8).length=32:=by rw[List.length_drop,hlen]
 have hlist:∀W:World,F.node.more≠0→Calls Tryz.prog 241 #[gV g,.string (S.read F.node.more)] W fun e w'=>∃v,e = .returned (.tuple #[v,.int .i64 0])∧OwnR 3 1 intC W.heap.size w' v (F.blocks.drop 8)∧Below W.heap.size W w':=fun W hm=>by
  have hr:S.read F.node.more=listB (F.blocks.drop 8):=hs.file.list hm
  have hlo:listOf (S.read F.node.more)=F.blocks.drop 8:=by rw[hr]; exact numAt_listB hl32 hb65
  have hlc:listC g (S.read F.node.more)=0:=by
   unfold listC
   rw[if_pos hs.gok,if_pos ⟨by rw[hr]; exact listB_size hl32,fun b hb=>by rw[hlo] at hb; exact hs.blk b (List.mem_of_mem_drop hb)⟩]
  have hl:=ilist_any W g (S.read F.node.more)
  unfold q116z at hl
  rw[hlc,if_pos rfl,hlo] at hl
  exact hl
 have hm0:F.node.more≠0→0<F.node.more:=fun hm=>by
  have:=(fits_bd hs.gok hs.fits).2.2.2.2.2.1
  omega
 have hnone:F.node.more=0→F.blocks.drop 8=List.replicate 32 0:=hs.file.none
 have htd:F.blocks.take 8 ++ F.blocks.drop 8=F.blocks:=List.take_append_drop 8 F.blocks
 have hdl:F.blocks.take 8=F.node.direct:=rfl
 rw[hdl] at htd
 obtain⟨BL,hBL⟩:=zx (F.blocks)
 rw[hBL] at hlen hb65 hl32 hlist hnone htd ⊢
 clear hdl
 obtain⟨n,hn⟩:=zx (F.node)
 rw[hn] at hd8 hck hseen hlist hm0 hnone htd ⊢
 clear hs h hck0 hgc0 hn hBL hb65
 have hdd:=list8 hd8
 unfold nA iA
 unfold iA at hck
 obtain⟨x0,h0⟩:=zx (n.kind)
 obtain⟨x1,h1⟩:=zx (n.links)
 obtain⟨x2,h2⟩:=zx (n.size)
 obtain⟨x3,h3⟩:=zx (n.parent)
 obtain⟨x4,h4⟩:=zx (n.gen)
 obtain⟨d0,h5⟩:=zx (n.direct.getD 0 0)
 obtain⟨d1,h6⟩:=zx (n.direct.getD 1 0)
 obtain⟨d2,h7⟩:=zx (n.direct.getD 2 0)
 obtain⟨d3,h8⟩:=zx (n.direct.getD 3 0)
 obtain⟨d4,h9⟩:=zx (n.direct.getD 4 0)
 obtain⟨d5,h10⟩:=zx (n.direct.getD 5 0)
 obtain⟨d6,h11⟩:=zx (n.direct.getD 6 0)
 obtain⟨d7,h12⟩:=zx (n.direct.getD 7 0)
 obtain⟨x6,h13⟩:=zx (n.more)
 rw[h0,h1,h2,h3,h4,h5,h6,h7,h8,h9,h10,h11,h12,h13] at hck ⊢
 rw[h5,h6,h7,h8,h9,h10,h11,h12] at hdd
 rw[hdd] at htd
 rw[h13] at hseen hlist hm0 hnone
 clear h0 h1 h2 h3 h4 h5 h6 h7 h8 h9 h10 h11 h12 h13 hdd hd8
 obtain⟨M,hM⟩:∃M:Nat,40=M:=⟨_,rfl⟩
 have hfin:∀(W:World) (b:Nat) (l:List Int),W.heap[b]? = some (.cells (([d0,d1,d2,d3,d4,d5,d6,d7] ++ l).map (Value.int .i64)).toArray 3 (0,0))→l=BL.drop 8→w.heap.size≤b→Below w.heap.size w W →
  Blocks40 w BL (.returned (.slice (some ⟨b,0,none⟩) M M)) W:=fun W b l hz hl hb hB=>by
  subst hl
  rw[htd] at hz
  have:=OwnR.block (e:=3) (size:=1) (f:=intC) (l:=BL) hz (by rw[List.toList_toArray,q97z]) (by simp) hb (by rw[hlen]; decide)
  rw[hlen] at this
  exact⟨b,by rw[←hM],this,hB⟩
 clear htd hlen
 obtain⟨L8,hL8⟩:=zx (BL.drop 8)
 rw[hL8] at hlist hl32 hnone hfin
 clear hL8
 have hszI:(Tryz.prog.info? 3).map (·.size)=some 1:=by kernel_rfl
 have hmk:∀W:World,(Instr.makeSlice 58 (.int .i64 40) (.int .i64 40)).run Tryz.prog W = .ok (.slice (some ⟨W.heap.size,0,none⟩) M M) (W.alloc (.cells ((List.replicate 40 (0:Int)).map (Value.int .i64)).toArray 3)):=by subst hM; exact run_make40
 obtain⟨ga,gb,gc⟩:=g
 unfold gV at hgc hck hlist ⊢
 unfold pt at hseen ⊢
 obtain⟨W0,hW0⟩:=zg w ga gb gc
 have hk:=q30z hW0
 have HB0:=zh hk.1
 have HK:=zh hk.2
 clear hk
 have hsz:W0.heap.size=w.heap.size+1:=by rw[←hW0]; simp
 obtain⟨W1,hW1⟩:=zx (W0.alloc (.cells #[.int .i64 x0,.int .i64 x1,.int .i64 x2,.int .i64 x3,.int .i64 x4,.int .i64 d0,.int .i64 d1,.int .i64 d2,.int .i64 d3,.int .i64 d4,.int .i64 d5,.int .i64 d6,.int .i64 d7,.int .i64 x6] 69))
 have HB1:Hid (Below W0.heap.size W0 W1):=by rw[←hW1]; exact bl2 _
 have HZ1:Hid (W1.heap[w.heap.size+1]? = some (.cells #[.int .i64 x0,.int .i64 x1,.int .i64 x2,.int .i64 x3,.int .i64 x4,.int .i64 d0,.int .i64 d1,.int .i64 d2,.int .i64 d3,.int .i64 d4,.int .i64 d5,.int .i64 d6,.int .i64 d7,.int .i64 x6] 69 (0,0))):=by rw[←hW1,←hsz]; exact heapNew W0 _
 have h8a:(8:Int)≤(M:Int):=by omega
 have h8b:8≤M:=by omega
 have h8c:¬M=8:=by omega
 have h8d:¬M-8=0:=by omega
 have HGC:=zh hgc
 have HCK:=zh hck
 have HMU:=zh hmu
 have HSEEN:=zh hseen
 have HLIST:=zh hlist
 have HM0:=zh hm0
 have HNONE:=zh hnone
 have HFIN:=zh hfin
 have HL32:=zh hl32
 have HM:=zh hM
 clear hgc hck hmu hseen hlist hm0 hnone hfin hl32 hM
 obtain⟨z0,z1,z2⟩:=HK.out W1 HB1.out
 go_enter Tryz.func173,Tryz.ntmps173
 go_wp2_with fail
 clear z0 z1 z2
 refine(HGC.out _).mono ?_
 rintro e w2 ⟨rfl,hb2⟩
 have HB2:=zh hb2
 clear hb2 hW1
 go_wp2_with fail
 refine(HMU.out _).mono ?_
 rintro e w3 ⟨rfl,hw3⟩
 replace hw3:=hw3.symm
 subst hw3
 obtain⟨z0,z1,z2⟩:=HK.out w2 (blN HB1.out HB2.out)
 obtain⟨y0,-⟩:=q96z (heapOld HB2.out HZ1.out)
 go_wp2_with fail
 clear z0 z1 z2 y0
 refine(HCK.out _).mono ?_
 rintro e w4 ⟨rfl,hb4⟩
 have HB4:Hid (Below W1.heap.size W1 w4):=blN HB2.out hb4
 clear hb4 HB2
 obtain⟨W5,hW5⟩:=zx (w4.alloc (.cells ((List.replicate 40 (0:Int)).map (Value.int .i64)).toArray 3))
 have HB5:Hid (Below W1.heap.size W1 W5):=by rw[←hW5]; exact bl1 HB4.out _
 have HR5:Hid (W5.heap[w4.heap.size]? = some (.cells ((List.replicate 40 (0:Int)).map (Value.int .i64)).toArray 3 (0,0))):=by rw[←hW5]; exact heapNew w4 _
 have HG5:Hid (W1.heap.size≤w4.heap.size):=HB4.out.size
 have HG0:Hid (w.heap.size≤w4.heap.size):=(blN HB0.out (blN HB1.out HB4.out)).size
 obtain⟨cur,hcur⟩:=zx (((List.replicate 40 (0:Int)).map (Value.int .i64)))
 rw[hcur] at hmk hW5 HR5
 go_upto_region 7 with fail
 go_wp2_with (refine wpList_copy_splice rfl (.tmp 22) (.tmp 24) 58 58 rfl 3 Tryz.underlying58 hszI _ _ _ _ _ _ rfl rfl w4.heap.size 0 _ 3 HR5.out [Value.int .i64 d0,Value.int .i64 d1,Value.int .i64 d2,Value.int .i64 d3,Value.int .i64 d4,Value.int .i64 d5,Value.int .i64 d6,Value.int .i64 d7] ?c1 ?c2 ?c3 ?c4 W1.heap.size W1 HB5.out HG5.out ?c5)
 case c1=>rw[←HM.out]; rfl
 case c2=>
  intro j v hj
  refine cellOf (heapOld HB5.out HZ1.out) ?_
  rcases j with _ | _ | _ | _ | _ | _ | _ | _ | j
  all_goals first | exact hj | exact absurd hj (by simp)
 case c3=>rw[←hcur]; simp
 case c4=>simp[Value.oneCell']
 intro w6 hz6 hb6
 have HR6:Hid (w6.heap[w4.heap.size]? = some (.cells (([d0,d1,d2,d3,d4,d5,d6,d7] ++ List.replicate 32 0).map (Value.int .i64)).toArray 3 (0,0))):=by
  have h:=hz6.out
  rw[←hcur,show([Value.int .i64 d0,Value.int .i64 d1,Value.int .i64 d2,Value.int .i64 d3,Value.int .i64 d4,Value.int .i64 d5,Value.int .i64 d6,Value.int .i64 d7]:List Value)=([d0,d1,d2,d3,d4,d5,d6,d7]:List Int).map (Value.int .i64) from rfl,splice0 rfl] at h
  exact h
 have HB6:=zh hb6
 clear hz6 hb6 HR5 hmk hW5 HB5 hcur
 obtain⟨y0,-⟩:=q96z (heapOld HB6.out HZ1.out)
 have HBw:Hid (∀W,Below w6.heap.size w6 W→Below w.heap.size w W):=fun W hW=>blN HB0.out (blN HB1.out (blN HB6.out hW))
 by_cases hx6:x6=0
 ·have HE:=zh (HFIN.out _ _ _ HR6.out (HNONE.out hx6).symm HG0.out (HBw.out w6 (Below.refl _ _)))
  have q1:decide (x6 > 0)=false:=decide_eq_false (by omega)
  clear hx6
  go_wp2
  go_ret
  exact HE.out
 ·have q1:decide (x6 > 0)=true:=decide_eq_true (HM0.out hx6)
  have HSE:=zh (fun W hW=>HSEEN.out W hW hx6)
  have HLI:=zh (fun W=>HLIST.out W hx6)
  have HS:Hid (∀W,Below w6.heap.size w6 W→(W.cell? ⟨w.heap.size,0,none⟩=some (.int .i64 ga)∧W.cell? ⟨w.heap.size,1,none⟩=some (.int .i64 gb)∧W.cell? ⟨w.heap.size,2,none⟩=some (.int .i64 gc))∧W.cell? ⟨w.heap.size+1,13,none⟩=some (.int .i64 x6)):=fun W hW=>
   ⟨HK.out W (blN HB1.out (blN HB6.out hW)),zc 13 (heapOld (blN HB6.out hW) HZ1.out)⟩
  clear hx6 HSEEN HLIST HNONE HM0
  go_wp2_with fail
  clear y0
  have hSd:=HS.out w6.drew (blD (Below.refl _ _))
  refine wp_region_held_drew (S:=(fun W=>(W.cell? ⟨w.heap.size,0,none⟩=some (.int .i64 ga)∧W.cell? ⟨w.heap.size,1,none⟩=some (.int .i64 gb)∧W.cell? ⟨w.heap.size,2,none⟩=some (.int .i64 gc))∧W.cell? ⟨w.heap.size+1,13,none⟩=some (.int .i64 x6))) (by kernel_rfl) (by first | trivial | assumption) (fun hHeld=>?_)
  refine tkH 0 ?_; simp only[Act.put,ps0]
  refine tkH 1 ?_; simp only[Act.put,ps0]
  refine tkH 2 ?_; simp only[Act.put,ps0]
  refine tkH 3 ?_; simp only[Act.put,ps0]
  refine wpAnyH_ready (rs:=[4]) (by kernel_rfl) (by simp) ?_
  refine AllReadyH.cons rfl (fun K hK=>?_) AllReadyH.nil
  try simp only[gg0]
  go_simp
  refine(HSE.out _ (HBw.out _ (blD (Below.refl _ _)))).mono ?_
  rintro e w7 ⟨rfl,hb7⟩
  have HB7:Hid (Below w6.heap.size w6 w7):=blN (blD (Below.refl _ _)) hb7
  clear hb7
  try simp only
  refine hK.out _ _ ?hkS (fun hHeld=>?_)
  case hkS=>
   exact HS.out _ HB7.out
  clear hK K
  try simp only[Act.put,ps0]
  refine wpAnyH_ready (rs:=[5]) (by kernel_rfl) (by simp) ?_
  refine AllReadyH.cons rfl (fun K hK=>?_) AllReadyH.nil
  try simp only[gg0]
  go_simp
  refine(HLI.out _).mono ?_
  rintro e w8 ⟨v,rfl,ho8,hb8⟩
  have HB8:Hid (Below w6.heap.size w6 w8):=blN HB7.out hb8
  have HV8:=zh (OwnR.row (f:=intC) (fun _ _=>rfl) ho8)
  clear hb8 ho8
  try simp only
  refine hK.out _ _ ?hkS (fun hHeld=>?_)
  case hkS=>
   exact HS.out _ HB8.out
  clear hK K
  try simp only[Act.put,ps0]
  refine tkH 6 ?_; simp only[Act.put,ps0]
  refine tkH 7 ?_; simp only[Act.put,ps0]
  refine tkH 8 ?_; simp only[Act.put,ps0]
  refine tkH 9 ?_; simp only[Act.put,ps0]
  refine tkH 10 ?_; simp only[Act.put,ps0]
  refine wpAnyH_done (by kernel_rfl) ?_ _
  clear hHeld hSd
  have HR8:=zh (heapOld HB8.out HR6.out)
  obtain⟨ad,m,cap,rfl,HMm,hm2,HF8⟩:=RowAt.facts HV8.out
  obtain rfl:m=32:=by rw[HMm.out]; exact HL32.out
  obtain⟨b0,o0,q0,rfl,_,_,_⟩:=HF8 0 (by omega)
  have HCl:Hid (∀j z,L8[j]? = some z→w8.cell? ⟨b0,o0+j,none⟩=some (.int .i64 z)):=fun j z hz=>by
   have hj:j<32:=by have:=(List.getElem?_eq_some_iff.1 hz).1; rw[HL32.out] at this; exact this
   obtain⟨b,o,q,hbd',hb,hq,hc⟩:=HF8 j hj
   cases hbd'
   obtain rfl:q=z:=Option.some.inj (hq.symm.trans hz)
   have h:=hc 0 _ rfl
   rw[Nat.mul_one,Nat.add_zero] at h
   exact h
  clear HF8
  have HBz:=zh (blN HB6.out HB8.out)
  have hcl:(L8.map (Value.int .i64)).length=Nat.min 32 (M-8):=by rw[List.length_map,HL32.out,←HM.out]; rfl
  go_wp2_with (refine wpList_copy_splice rfl (.tmp 42) (.tmp 43) 58 58 rfl 3 Tryz.underlying58 hszI _ _ _ _ _ _ rfl rfl w4.heap.size 8 _ 3 HR8.out (L8.map (Value.int .i64)) ?k1 ?k2 ?k3 ?k4 W1.heap.size W1 HBz.out HG5.out ?k5)
  case k2=>exact fun _ j z hz=>HCl.out j z hz
  case k3=>
   have:=HM.out
   show 8+min 32 (M-8)≤40
   omega
  case k4=>
   intro y hy
   first
    | rfl
    | (obtain⟨z,_,rfl⟩:=List.mem_map.1 hy
       rfl)
  intro w9 hz9 hb9
  have e9:Go.splice (([d0,d1,d2,d3,d4,d5,d6,d7] ++ List.replicate 32 0).map (Value.int .i64)) 8 (L8.map (Value.int .i64))=([d0,d1,d2,d3,d4,d5,d6,d7] ++ L8).map (Value.int .i64):=by
   have:=splice8 (d:=[d0,d1,d2,d3,d4,d5,d6,d7]) (l:=L8) rfl HL32.out
   rw[splice0 rfl] at this
   exact this
  have hr9:w9.heap[w4.heap.size]? = some (.cells (([d0,d1,d2,d3,d4,d5,d6,d7] ++ L8).map (Value.int .i64)).toArray 3 (0,0)):=by
   rw[←e9]
   exact hz9.out
  have HE:=zh (HFIN.out _ _ _ hr9 rfl HG0.out (blN HB0.out (blN HB1.out hb9)))
  clear hz9 hb9 hr9 e9 hcl
  go_wp2
  go_ret
  exact HE.out
theorem bblocks_any {w:World} {base B Bd:Nat} {S:Sp.Side} {D:Nat→Prop} (h:SideAt w base B Bd S D) {g:Sp.Geom} {i:Int} {F:File} (hs:Stands S g i F) :
 Calls Tryz.prog 173 #[pt B,gV g,.agg (nA F.node)] w fun e w'=>∃v,e = .returned v∧OwnR 3 1 intC w.heap.size w' v F.blocks∧Below w.heap.size w w':=
 (bblocks40_any h hs).mono fun _ _ ⟨_,he,ho,hb⟩=>⟨_,he,ho,hb⟩
end
section
def OpenPost (w0 w:World) (base B Bd:Nat) (S:Sp.Side) (D:Nat→Prop) (g:Sp.Geom) (i:Int) (F:File) (e:Ending) (w':World):Prop:=
 ∃Bf vb,e = .returned (pt Bf)∧FM w0 base B Bd Bf D g i (q1z g i) F.node ⟨S,F,[]⟩ vb (.slice none 0 0) D w'∧Below w.heap.size w w'
def Open40 (w0 w:World) (base B Bd:Nat) (S:Sp.Side) (D:Nat→Prop) (g:Sp.Geom) (i:Int) (F:File) (e:Ending) (w':World):Prop:=
 ∃Bf gb,e = .returned (pt Bf)∧FM w0 base B Bd Bf D g i (q1z g i) F.node ⟨S,F,[]⟩ (.slice (some ⟨gb,0,none⟩) 40 40) (.slice none 0 0) D w'∧Below w.heap.size w w'
theorem bopen40_any {w0 w:World} (hb0:Below w0.heap.size w0 w) {base B Bd:Nat} (hbs:base≤w0.heap.size) {S:Sp.Side} {D:Nat→Prop} (h:SideAt w base B Bd S D) (hD:∀j,D j→j<w.heap.size) {g:Sp.Geom} {i:Int} {F:File} (hs:Stands S g i F) :
 Calls Tryz.prog 97 #[pt B,gV g,.int .i64 i] w (Open40 w0 w base B Bd S D g i F):=by
 have hlo:=fun(W:World) (hW:Below w.heap.size w W)=>bload_any (h.below hW) hs
 have hbl:=fun(W:World) (hW:Below w.heap.size w W)=>bblocks40_any (h.below hW) hs
 have hfin:∀(W:World) (q:Nat),Below w.heap.size w W→OwnR 3 1 intC w.heap.size W (.slice (some ⟨q,0,none⟩) 40 40) F.blocks→Open40 w0 w base B Bd S D g i F (.returned (.pointer (some ⟨W.heap.size,0,none⟩))) (W.alloc (fileO B g i (q1z g i) F.node F.node.more (.slice (some ⟨q,0,none⟩) 40 40) (.slice none 0 0))):=fun W q hW hv=>by
  have hb:=bl1 hW (fileO B g i (q1z g i) F.node F.node.more (.slice (some ⟨q,0,none⟩) 40 40) (.slice none 0 0))
  have hsz:=hW.size
  have hs0:=hb0.size
  refine⟨W.heap.size,q,rfl,⟨⟨h.below hb,fun j hj=>Nat.lt_of_lt_of_le (hD j hj) hb.size,fun j hj=>Or.inl hj,by omega,fun hd=>by have:=hD _ hd; omega,fun b hv' hd=>?_,heapNew W _,?_,?_,hbs⟩,OwnR.void _ _,fun b hb=>(by cases hb),fun b _ hb=>(by cases hb)⟩,hb⟩
  ·have:=hD b hd
   have:=(hv.lt b hv').1
   omega
  ·exact(hv.below (bl2 _)).mono (by omega)
  ·exact Turn.of_below (blN hb0 hb)
 obtain⟨sec,hsec⟩:=zx (q1z g i)
 rw[hsec] at hlo hfin
 obtain⟨n,hn⟩:=zx (F.node)
 rw[hn] at hlo hbl hfin
 obtain⟨BL,hBL⟩:=zx (F.blocks)
 rw[hBL] at hbl hfin
 obtain⟨Q,hQ⟩:=zx (Open40 w0 w base B Bd S D g i F)
 rw[hQ] at hfin ⊢
 clear h hD hs hsec hn hBL hQ hb0
 unfold fileO fileA pt at hfin
 unfold Blocks40 at hbl
 unfold nA iA at hlo hbl
 obtain⟨x0,h0⟩:=zx (n.kind)
 obtain⟨x1,h1⟩:=zx (n.links)
 obtain⟨x2,h2⟩:=zx (n.size)
 obtain⟨x3,h3⟩:=zx (n.parent)
 obtain⟨x4,h4⟩:=zx (n.gen)
 obtain⟨d0,h5⟩:=zx (n.direct.getD 0 0)
 obtain⟨d1,h6⟩:=zx (n.direct.getD 1 0)
 obtain⟨d2,h7⟩:=zx (n.direct.getD 2 0)
 obtain⟨d3,h8⟩:=zx (n.direct.getD 3 0)
 obtain⟨d4,h9⟩:=zx (n.direct.getD 4 0)
 obtain⟨d5,h10⟩:=zx (n.direct.getD 5 0)
 obtain⟨d6,h11⟩:=zx (n.direct.getD 6 0)
 obtain⟨d7,h12⟩:=zx (n.direct.getD 7 0)
 obtain⟨x6,h13⟩:=zx (n.more)
 rw[h0,h1,h2,h3,h4,h5,h6,h7,h8,h9,h10,h11,h12,h13] at hlo hbl hfin
 clear h0 h1 h2 h3 h4 h5 h6 h7 h8 h9 h10 h11 h12 h13
 obtain⟨ga,gb,gc⟩:=g
 unfold gV at hlo hbl ⊢
 unfold pt at hlo hbl ⊢
 dsimp only at hfin
 obtain⟨W0,hW0⟩:=zg w ga gb gc
 have hk:=q30z hW0
 have HB0:=zh hk.1
 have HK:=zh hk.2
 clear hk
 have HLO:=zh hlo
 have HBL:=zh hbl
 have HFIN:=zh hfin
 clear hlo hbl hfin
 obtain⟨z0,z1,z2⟩:=HK.out W0 (Below.refl _ _)
 go_enter Tryz.func97,Tryz.ntmps97
 go_wp2_with fail
 clear z0 z1 z2 hW0
 refine(HLO.out _ HB0.out).mono ?_
 rintro e w1 ⟨rfl,hb1⟩
 obtain⟨W2,hW2⟩:=zx (w1.alloc (.cells #[.int .i64 x0,.int .i64 x1,.int .i64 x2,.int .i64 x3,.int .i64 x4,.int .i64 d0,.int .i64 d1,.int .i64 d2,.int .i64 d3,.int .i64 d4,.int .i64 d5,.int .i64 d6,.int .i64 d7,.int .i64 x6] 69))
 have HB2:Hid (Below W0.heap.size W0 W2):=by rw[←hW2]; exact bl1 hb1 _
 have HZ2:Hid (W2.heap[w1.heap.size]? = some (.cells #[.int .i64 x0,.int .i64 x1,.int .i64 x2,.int .i64 x3,.int .i64 x4,.int .i64 d0,.int .i64 d1,.int .i64 d2,.int .i64 d3,.int .i64 d4,.int .i64 d5,.int .i64 d6,.int .i64 d7,.int .i64 x6] 69 (0,0))):=by rw[←hW2]; exact heapNew w1 _
 clear hb1
 have HS:Hid (∀W,Below W2.heap.size W2 W→((W.cell? ⟨w.heap.size,0,none⟩=some (.int .i64 ga)∧W.cell? ⟨w.heap.size,1,none⟩=some (.int .i64 gb)∧W.cell? ⟨w.heap.size,2,none⟩=some (.int .i64 gc))∧W.cell? ⟨w1.heap.size,0,none⟩=some (.int .i64 x0)∧W.cell? ⟨w1.heap.size,1,none⟩=some (.int .i64 x1)∧W.cell? ⟨w1.heap.size,2,none⟩=some (.int .i64 x2)∧W.cell? ⟨w1.heap.size,3,none⟩=some (.int .i64 x3)∧W.cell? ⟨w1.heap.size,4,none⟩=some (.int .i64 x4)∧W.cell? ⟨w1.heap.size,5,none⟩=some (.int .i64 d0)∧W.cell? ⟨w1.heap.size,6,none⟩=some (.int .i64 d1)∧W.cell? ⟨w1.heap.size,7,none⟩=some (.int .i64 d2)∧W.cell? ⟨w1.heap.size,8,none⟩=some (.int .i64 d3)∧W.cell? ⟨w1.heap.size,9,none⟩=some (.int .i64 d4)∧W.cell? ⟨w1.heap.size,10,none⟩=some (.int .i64 d5)∧W.cell? ⟨w1.heap.size,11,none⟩=some (.int .i64 d6)∧W.cell? ⟨w1.heap.size,12,none⟩=some (.int .i64 d7)∧W.cell? ⟨w1.heap.size,13,none⟩=some (.int .i64 x6))):=fun W hW=>
  ⟨HK.out W (blN HB2.out hW),by
   have hz:=heapOld hW HZ2.out
   exact⟨zc 0 hz,zc 1 hz,zc 2 hz,zc 3 hz,zc 4 hz,zc 5 hz,zc 6 hz,zc 7 hz,zc 8 hz,zc 9 hz,zc 10 hz,zc 11 hz,zc 12 hz,zc 13 hz⟩⟩
 go_wp2_with fail
 have hSd:=HS.out W2.drew (blD (Below.refl _ _))
 clear hW2
 refine wp_region_held_drew (S:=(fun W=>(W.cell? ⟨w.heap.size,0,none⟩=some (.int .i64 ga)∧W.cell? ⟨w.heap.size,1,none⟩=some (.int .i64 gb)∧W.cell? ⟨w.heap.size,2,none⟩=some (.int .i64 gc))∧W.cell? ⟨w1.heap.size,0,none⟩=some (.int .i64 x0)∧W.cell? ⟨w1.heap.size,1,none⟩=some (.int .i64 x1)∧W.cell? ⟨w1.heap.size,2,none⟩=some (.int .i64 x2)∧W.cell? ⟨w1.heap.size,3,none⟩=some (.int .i64 x3)∧W.cell? ⟨w1.heap.size,4,none⟩=some (.int .i64 x4)∧W.cell? ⟨w1.heap.size,5,none⟩=some (.int .i64 d0)∧W.cell? ⟨w1.heap.size,6,none⟩=some (.int .i64 d1)∧W.cell? ⟨w1.heap.size,7,none⟩=some (.int .i64 d2)∧W.cell? ⟨w1.heap.size,8,none⟩=some (.int .i64 d3)∧W.cell? ⟨w1.heap.size,9,none⟩=some (.int .i64 d4)∧W.cell? ⟨w1.heap.size,10,none⟩=some (.int .i64 d5)∧W.cell? ⟨w1.heap.size,11,none⟩=some (.int .i64 d6)∧W.cell? ⟨w1.heap.size,12,none⟩=some (.int .i64 d7)∧W.cell? ⟨w1.heap.size,13,none⟩=some (.int .i64 x6))) (by kernel_rfl) (by first | trivial | assumption) (fun hHeld=>?_)
 refine tkH 0 ?_; simp only[Act.put,ps0]
 refine tkH 1 ?_; simp only[Act.put,ps0]
 refine tkH 2 ?_; simp only[Act.put,ps0]
 refine tkH 3 ?_; simp only[Act.put,ps0]
 refine tkH 4 ?_; simp only[Act.put,ps0]
 refine tkH 5 ?_; simp only[Act.put,ps0]
 refine tkH 6 ?_; simp only[Act.put,ps0]
 refine tkH 7 ?_; simp only[Act.put,ps0]
 refine wpAnyH_ready (rs:=[8]) (by kernel_rfl) (by simp) ?_
 refine AllReadyH.cons rfl (fun K hK=>?_) AllReadyH.nil
 try simp only[gg0]
 go_simp
 refine(HBL.out _ (blN HB0.out (blN HB2.out (blD (Below.refl _ _))))).mono ?_
 rintro e w3 ⟨bq,rfl,ho3,hb3⟩
 have HB3:Hid (Below W2.heap.size W2 w3):=blN (blD (Below.refl _ _)) hb3
 have HO3:=zh (ho3.mono (show w.heap.size≤W2.drew.heap.size from(blN HB0.out HB2.out).size))
 clear hb3 ho3
 try simp only
 refine hK.out _ _ ?hkS (fun hHeld=>?_)
 case hkS=>
  exact HS.out _ HB3.out
 clear hK K
 try simp only[Act.put,ps0]
 refine tkH 9 ?_; simp only[Act.put,ps0]
 refine wpAnyH_ready (rs:=[10]) (by kernel_rfl) (by simp) ?_
 refine AllReadyH.cons rfl (fun K hK=>?_) AllReadyH.nil
 try simp only[gg0]
 go_simp
 try simp only
 refine hK.out _ _ ?hkS (fun hHeld=>?_)
 case hkS=>
  exact HS.out _ (bl1 HB3.out _)
 clear hK K
 try simp only[Act.put,ps0]
 refine tkH 11 ?_; simp only[Act.put,ps0]
 refine wpAnyH_done (by kernel_rfl) ?_ _
 have HE:=zh (HFIN.out w3 _ (blN HB0.out (blN HB2.out HB3.out)) HO3.out)
 go_wp2
 first | exact HE.out | (go_ret; exact HE.out)
theorem bopen_any {w0 w:World} (hb0:Below w0.heap.size w0 w) {base B Bd:Nat} (hbs:base≤w0.heap.size) {S:Sp.Side} {D:Nat→Prop} (h:SideAt w base B Bd S D) (hD:∀j,D j→j<w.heap.size) {g:Sp.Geom} {i:Int} {F:File} (hs:Stands S g i F) :
 Calls Tryz.prog 97 #[pt B,gV g,.int .i64 i] w (OpenPost w0 w base B Bd S D g i F):=
 (bopen40_any hb0 hbs h hD hs).mono fun _ _ ⟨Bf,_,he,hM,hb⟩=>⟨Bf,_,he,hM,hb⟩
end
section
variable {w0 w:World} {base B Bd Bf:Nat} {D0 D:Nat→Prop} {g:Sp.Geom} {i at_:Int} {n:Sp.Inode} {t:BSt} {vb vm:Value}
theorem bwithin_ok (h:FM w0 base B Bd Bf D0 g i at_ n t vb vm D w) (hk:n.kind≠0) {off long:Int} (h0:0≤off) (h1:0≤long) (h2:off+long≤2560) :
 Calls Tryz.prog 98 #[pt Bf,.int .i64 off,.int .i64 long] w fun e w'=>e = .returned (.tuple #[])∧w' = w:=by
 have c6:=zc 6 h.core.box
 obtain⟨k,hkk⟩:=zx (n.kind)
 have c6:w.cell? ⟨Bf,6,none⟩=some (.int .i64 k):=by rw[←hkk]; exact c6
 rw[hkk] at hk
 have q0:(k == 0)=false:=beq_eq_false_iff_ne.2 hk
 have q1:decide (off<0)=false:=decide_eq_false (by omega)
 have q2:decide (off > 2560)=false:=decide_eq_false (by omega)
 have q3:decide (long > 2560-off)=false:=decide_eq_false (by omega)
 have e1:IntKind.i64.wrap (2560-off)=2560-off:=IntWalk.i64_in _ (by omega)
 clear h hkk hk h0 h1 h2
 rename_i c6'
 clear c6'
 unfold pt
 go_enter Tryz.func98,Tryz.ntmps98
 go_wp2
 first | exact⟨rfl,rfl⟩ | (go_end0; exact⟨rfl,rfl⟩)
end
