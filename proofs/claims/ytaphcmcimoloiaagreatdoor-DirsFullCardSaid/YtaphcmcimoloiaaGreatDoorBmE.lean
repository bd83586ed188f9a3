/-
  BmE: BmLoads, Builder, BmRead, BmStands.
-/
import Derived.Test.YtaphcmcimoloiaaGreatDoorBmC
import Derived.Test.YtaphcmcimoloiaaGreatDoorBmA
import Derived.Test.YtaphcmcimoloiaaGreatDoorMapsB
import Derived.Lib.Builder
import Derived.Shelf.Strings.Builder1
import Derived.Lib.AppendStr
import Derived.Lib.AppendIntMem
import Derived.Test.YtaphcmcimoloiaaGreatDoorBmWrite
namespace Go.Proofs.YtaphcmcimoloiaaGreatDoor
open Go Go.RowKit Txt Sp

theorem sets_other {b k : Nat} (h : k ≠ b) : ∀ (vs : List Value) (i : Nat) (w : World), (sets w b i vs).heap[k]? = w.heap[k]?
  | [], _, _ => rfl
  | v :: r, i, w => (sets_other h r (i + 1) (w.setCell ⟨b, i, none⟩ v)).trans (by simp [World.setCell, Array.getElem?_modify, Ne.symm h])
section
set_option maxHeartbeats 4000000
set_option maxRecDepth 20000 in
theorem bLoad_any {w : World} {base B Bd : Nat} {S : Sp.Side} {D : Nat → Prop} (h : SideAt w base B Bd S D) {g : Sp.Geom} {i : Int} {F : File} (hs : Stands S g i F) :
    Calls Tryz.prog 30 #[pt B, gV g, .int .i64 i] w fun e w' => e = .returned (.tuple #[.agg (nA F.node), .int .i64 0]) ∧ Below w.heap.size w w' := by
  have hlo := fun (W : World) (hW : Below w.heap.size w W) => bload_any (h.below hW) hs
  obtain ⟨sec, hsec⟩ : ∃ s, inodeSec g i = s := ⟨_, rfl⟩
  rw [hsec] at hlo
  obtain ⟨n, hn⟩ : ∃ n, F.node = n := ⟨_, rfl⟩
  rw [hn] at hlo ⊢
  clear h hs hsec hn
  unfold nA iA at hlo ⊢
  obtain ⟨x0, h0⟩ : ∃ x, n.kind = x := ⟨_, rfl⟩
  obtain ⟨x1, h1⟩ : ∃ x, n.links = x := ⟨_, rfl⟩
  obtain ⟨x2, h2⟩ : ∃ x, n.size = x := ⟨_, rfl⟩
  obtain ⟨x3, h3⟩ : ∃ x, n.parent = x := ⟨_, rfl⟩
  obtain ⟨x4, h4⟩ : ∃ x, n.gen = x := ⟨_, rfl⟩
  obtain ⟨d0, h5⟩ : ∃ x, n.direct.getD 0 0 = x := ⟨_, rfl⟩
  obtain ⟨d1, h6⟩ : ∃ x, n.direct.getD 1 0 = x := ⟨_, rfl⟩
  obtain ⟨d2, h7⟩ : ∃ x, n.direct.getD 2 0 = x := ⟨_, rfl⟩
  obtain ⟨d3, h8⟩ : ∃ x, n.direct.getD 3 0 = x := ⟨_, rfl⟩
  obtain ⟨d4, h9⟩ : ∃ x, n.direct.getD 4 0 = x := ⟨_, rfl⟩
  obtain ⟨d5, h10⟩ : ∃ x, n.direct.getD 5 0 = x := ⟨_, rfl⟩
  obtain ⟨d6, h11⟩ : ∃ x, n.direct.getD 6 0 = x := ⟨_, rfl⟩
  obtain ⟨d7, h12⟩ : ∃ x, n.direct.getD 7 0 = x := ⟨_, rfl⟩
  obtain ⟨x6, h13⟩ : ∃ x, n.more = x := ⟨_, rfl⟩
  rw [h0, h1, h2, h3, h4, h5, h6, h7, h8, h9, h10, h11, h12, h13] at hlo ⊢
  clear h0 h1 h2 h3 h4 h5 h6 h7 h8 h9 h10 h11 h12 h13
  obtain ⟨ga, gb, gc⟩ := g
  unfold gV at hlo ⊢
  unfold pt at hlo ⊢
  obtain ⟨W0, hW0⟩ : ∃ W, w.alloc (.cells #[.int .i64 ga, .int .i64 gb, .int .i64 gc] 27) = W := ⟨_, rfl⟩
  have hk := g_keep hW0
  have HB0 := Lib.hid hk.1
  have HK := Lib.hid hk.2
  clear hk
  have hsz : W0.heap.size = w.heap.size + 1 := by rw [← hW0]; simp
  obtain ⟨W1, hW1⟩ : ∃ W, W0.alloc (.cells zeroIA 56) = W := ⟨_, rfl⟩
  have hsz1 : W1.heap.size = w.heap.size + 2 := by rw [← hW1]; simp [hsz]
  obtain ⟨W2, hW2⟩ : ∃ W, W1.alloc (.cells #[.int .i64 0] 29) = W := ⟨_, rfl⟩
  have HB2 : Hid (Below W0.heap.size W0 W2) := by rw [← hW2, ← hW1]; exact bl1 (bl2 _) _
  have HZ1 : Hid (W2.heap[w.heap.size + 1]? = some (.cells zeroIA 56 (0, 0))) := by
    rw [← hW2, ← hW1, ← hsz]
    exact heapOld (bl2 _) (heapNew W0 _)
  have HZ2 : Hid (W2.heap[w.heap.size + 2]? = some (.cells #[.int .i64 0] 29 (0, 0))) := by rw [← hW2, ← hsz1]; exact heapNew W1 _
  unfold zeroIA at hW1
  have HLO := Lib.hid (hlo W2 (blN HB0.out HB2.out))
  clear hlo
  obtain ⟨z0, z1, z2⟩ := HK.out W2 HB2.out
  go_enter_defers Tryz.func30, Tryz.ntmps30
  go_wp2_with fail
  clear z0 z1 z2
  refine HLO.out.mono ?_
  rintro e w3 ⟨rfl, hb3⟩
  have hz1 := heapOld hb3 HZ1.out
  have hz2 := heapOld hb3 HZ2.out
  obtain ⟨y0, y1⟩ := ino_cells hz1
  have HB3 := Lib.hid (blN HB0.out (blN HB2.out hb3))
  clear hb3
  have HZf := Lib.hid (sets_all hz1 (vs := [.int .i64 x0, .int .i64 x1, .int .i64 x2, .int .i64 x3, .int .i64 x4, .int .i64 d0, .int .i64 d1, .int .i64 d2, .int .i64 d3, .int .i64 d4, .int .i64 d5, .int .i64 d6, .int .i64 d7, .int .i64 x6]) rfl)
  have HBf := Lib.hid (sets14 (v0 := .int .i64 x0) (v1 := .int .i64 x1) (v2 := .int .i64 x2) (v3 := .int .i64 x3) (v4 := .int .i64 x4) (v5 := .int .i64 d0) (v6 := .int .i64 d1) (v7 := .int .i64 d2) (v8 := .int .i64 d3) (v9 := .int .i64 d4) (v10 := .int .i64 d5) (v11 := .int .i64 d6) (v12 := .int .i64 d7) (v13 := .int .i64 x6) (b := w.heap.size + 1) (Nat.le_succ _) HB3.out)
  have HCf : Hid ((((((((((((((((w3.setCell ⟨w.heap.size + 1, 0, none⟩ (.int .i64 x0)).setCell ⟨w.heap.size + 1, 1, none⟩ (.int .i64 x1)).setCell ⟨w.heap.size + 1, 2, none⟩ (.int .i64 x2)).setCell ⟨w.heap.size + 1, 3, none⟩ (.int .i64 x3)).setCell ⟨w.heap.size + 1, 4, none⟩ (.int .i64 x4)).setCell ⟨w.heap.size + 1, 5, none⟩ (.int .i64 d0)).setCell ⟨w.heap.size + 1, 6, none⟩ (.int .i64 d1)).setCell ⟨w.heap.size + 1, 7, none⟩ (.int .i64 d2)).setCell ⟨w.heap.size + 1, 8, none⟩ (.int .i64 d3)).setCell ⟨w.heap.size + 1, 9, none⟩ (.int .i64 d4)).setCell ⟨w.heap.size + 1, 10, none⟩ (.int .i64 d5)).setCell ⟨w.heap.size + 1, 11, none⟩ (.int .i64 d6)).setCell ⟨w.heap.size + 1, 12, none⟩ (.int .i64 d7)).setCell ⟨w.heap.size + 1, 13, none⟩ (.int .i64 x6))).heap[w.heap.size + 2]? = some (.cells #[.int .i64 0] 29 (0, 0))) := (sets_other (by omega) [.int .i64 x0, .int .i64 x1, .int .i64 x2, .int .i64 x3, .int .i64 x4, .int .i64 d0, .int .i64 d1, .int .i64 d2, .int .i64 d3, .int .i64 d4, .int .i64 d5, .int .i64 d6, .int .i64 d7, .int .i64 x6] 0 w3).trans hz2
  clear hz1 hz2
  go_upto_region 3 with fail
  obtain ⟨W4, hW4⟩ : ∃ W, ((((((((((((((w3.setCell ⟨w.heap.size + 1, 0, none⟩ (.int .i64 x0)).setCell ⟨w.heap.size + 1, 1, none⟩ (.int .i64 x1)).setCell ⟨w.heap.size + 1, 2, none⟩ (.int .i64 x2)).setCell ⟨w.heap.size + 1, 3, none⟩ (.int .i64 x3)).setCell ⟨w.heap.size + 1, 4, none⟩ (.int .i64 x4)).setCell ⟨w.heap.size + 1, 5, none⟩ (.int .i64 d0)).setCell ⟨w.heap.size + 1, 6, none⟩ (.int .i64 d1)).setCell ⟨w.heap.size + 1, 7, none⟩ (.int .i64 d2)).setCell ⟨w.heap.size + 1, 8, none⟩ (.int .i64 d3)).setCell ⟨w.heap.size + 1, 9, none⟩ (.int .i64 d4)).setCell ⟨w.heap.size + 1, 10, none⟩ (.int .i64 d5)).setCell ⟨w.heap.size + 1, 11, none⟩ (.int .i64 d6)).setCell ⟨w.heap.size + 1, 12, none⟩ (.int .i64 d7)).setCell ⟨w.heap.size + 1, 13, none⟩ (.int .i64 x6)) = W := ⟨_, rfl⟩
  have hz4 : W4.heap[w.heap.size + 1]? = some (.cells #[.int .i64 x0, .int .i64 x1, .int .i64 x2, .int .i64 x3, .int .i64 x4, .int .i64 d0, .int .i64 d1, .int .i64 d2, .int .i64 d3, .int .i64 d4, .int .i64 d5, .int .i64 d6, .int .i64 d7, .int .i64 x6] 56 (0, 0)) := by rw [← hW4]; exact HZf.out
  have hb4 : Below w.heap.size w W4 := by rw [← hW4]; exact HBf.out
  have hc4 := HCf.out
  rw [hW4] at hc4 ⊢
  clear HZf HBf HCf y0 y1 hW4 HB3
  obtain ⟨u0, u1⟩ := blk_cells hz4
  have c4 := cellOf (k := 0) hc4 rfl
  have v4 : W4.frozen? ⟨w.heap.size + 2, 0, none⟩ = false := freeOf hc4
  have HZg := Lib.hid (sets_all hz4 (vs := [.int .i64 x0, .int .i64 x1, .int .i64 x2, .int .i64 x3, .int .i64 x4, .int .i64 d0, .int .i64 d1, .int .i64 d2, .int .i64 d3, .int .i64 d4, .int .i64 d5, .int .i64 d6, .int .i64 d7, .int .i64 x6]) rfl)
  have HCg : Hid ((((((((((((((((W4.setCell ⟨w.heap.size + 1, 0, none⟩ (.int .i64 x0)).setCell ⟨w.heap.size + 1, 1, none⟩ (.int .i64 x1)).setCell ⟨w.heap.size + 1, 2, none⟩ (.int .i64 x2)).setCell ⟨w.heap.size + 1, 3, none⟩ (.int .i64 x3)).setCell ⟨w.heap.size + 1, 4, none⟩ (.int .i64 x4)).setCell ⟨w.heap.size + 1, 5, none⟩ (.int .i64 d0)).setCell ⟨w.heap.size + 1, 6, none⟩ (.int .i64 d1)).setCell ⟨w.heap.size + 1, 7, none⟩ (.int .i64 d2)).setCell ⟨w.heap.size + 1, 8, none⟩ (.int .i64 d3)).setCell ⟨w.heap.size + 1, 9, none⟩ (.int .i64 d4)).setCell ⟨w.heap.size + 1, 10, none⟩ (.int .i64 d5)).setCell ⟨w.heap.size + 1, 11, none⟩ (.int .i64 d6)).setCell ⟨w.heap.size + 1, 12, none⟩ (.int .i64 d7)).setCell ⟨w.heap.size + 1, 13, none⟩ (.int .i64 x6))).heap[w.heap.size + 2]? = some (.cells #[.int .i64 0] 29 (0, 0))) := (sets_other (by omega) [.int .i64 x0, .int .i64 x1, .int .i64 x2, .int .i64 x3, .int .i64 x4, .int .i64 d0, .int .i64 d1, .int .i64 d2, .int .i64 d3, .int .i64 d4, .int .i64 d5, .int .i64 d6, .int .i64 d7, .int .i64 x6] 0 W4).trans hc4
  have HBg := Lib.hid (sets14 (v0 := .int .i64 x0) (v1 := .int .i64 x1) (v2 := .int .i64 x2) (v3 := .int .i64 x3) (v4 := .int .i64 x4) (v5 := .int .i64 d0) (v6 := .int .i64 d1) (v7 := .int .i64 d2) (v8 := .int .i64 d3) (v9 := .int .i64 d4) (v10 := .int .i64 d5) (v11 := .int .i64 d6) (v12 := .int .i64 d7) (v13 := .int .i64 x6) (b := w.heap.size + 1) (Nat.le_succ _) hb4)
  go_wp2
  refine leaves_cons (f := 94) (args := #[.pointer (some ⟨w.heap.size + 2, 0, none⟩)]) (by simp) (by simp [go_sem]) ?_
  refine (caught_idle ⟨w.heap.size + 2, 0, none⟩ _).mono ?_
  rintro e u' w'' ⟨rfl, rfl, rfl⟩
  obtain ⟨W5, hW5⟩ : ∃ W, ((((((((((((((W4.setCell ⟨w.heap.size + 1, 0, none⟩ (.int .i64 x0)).setCell ⟨w.heap.size + 1, 1, none⟩ (.int .i64 x1)).setCell ⟨w.heap.size + 1, 2, none⟩ (.int .i64 x2)).setCell ⟨w.heap.size + 1, 3, none⟩ (.int .i64 x3)).setCell ⟨w.heap.size + 1, 4, none⟩ (.int .i64 x4)).setCell ⟨w.heap.size + 1, 5, none⟩ (.int .i64 d0)).setCell ⟨w.heap.size + 1, 6, none⟩ (.int .i64 d1)).setCell ⟨w.heap.size + 1, 7, none⟩ (.int .i64 d2)).setCell ⟨w.heap.size + 1, 8, none⟩ (.int .i64 d3)).setCell ⟨w.heap.size + 1, 9, none⟩ (.int .i64 d4)).setCell ⟨w.heap.size + 1, 10, none⟩ (.int .i64 d5)).setCell ⟨w.heap.size + 1, 11, none⟩ (.int .i64 d6)).setCell ⟨w.heap.size + 1, 12, none⟩ (.int .i64 d7)).setCell ⟨w.heap.size + 1, 13, none⟩ (.int .i64 x6)) = W := ⟨_, rfl⟩
  have hz5 := HZg.out
  have hc5 := HCg.out
  have hb5 := HBg.out
  change (World.heap ((((((((((((((W4.setCell ⟨w.heap.size + 1, 0, none⟩ (.int .i64 x0)).setCell ⟨w.heap.size + 1, 1, none⟩ (.int .i64 x1)).setCell ⟨w.heap.size + 1, 2, none⟩ (.int .i64 x2)).setCell ⟨w.heap.size + 1, 3, none⟩ (.int .i64 x3)).setCell ⟨w.heap.size + 1, 4, none⟩ (.int .i64 x4)).setCell ⟨w.heap.size + 1, 5, none⟩ (.int .i64 d0)).setCell ⟨w.heap.size + 1, 6, none⟩ (.int .i64 d1)).setCell ⟨w.heap.size + 1, 7, none⟩ (.int .i64 d2)).setCell ⟨w.heap.size + 1, 8, none⟩ (.int .i64 d3)).setCell ⟨w.heap.size + 1, 9, none⟩ (.int .i64 d4)).setCell ⟨w.heap.size + 1, 10, none⟩ (.int .i64 d5)).setCell ⟨w.heap.size + 1, 11, none⟩ (.int .i64 d6)).setCell ⟨w.heap.size + 1, 12, none⟩ (.int .i64 d7)).setCell ⟨w.heap.size + 1, 13, none⟩ (.int .i64 x6)))[w.heap.size + 1]? = _ at hz5
  rw [hW5] at hz5 hc5 hb5 ⊢
  have hc6 := setHeap_at (k := 0) hc5 (.int .i64 0)
  have hz6 := (setCell_turn (w := W5) (b := w.heap.size + 2) (k := 0) (v := .int .i64 0)).heap hz5 (by omega)
  have hb6 := hb5.setCell (p := ⟨w.heap.size + 2, 0, none⟩) (by show w.heap.size ≤ w.heap.size + 2; omega) (.int .i64 0)
  obtain ⟨W6, hW6⟩ : ∃ W, W5.setCell ⟨w.heap.size + 2, 0, none⟩ (.int .i64 0) = W := ⟨_, rfl⟩
  rw [hW6] at hc6 hz6 hb6 ⊢
  clear u0 u1 c4 v4 hz5 hc5 hb5
  obtain ⟨t0, -⟩ := blk_cells hz6
  have t1 := cellOf (k := 0) hc6 rfl
  simp [Leaves, settle, results, Tryz.results30, go_sem, t0, t1]
  exact hb6
set_option maxRecDepth 20000 in
theorem bBlocks_any {w : World} {base B Bd : Nat} {S : Sp.Side} {D : Nat → Prop} (h : SideAt w base B Bd S D) {g : Sp.Geom} {i : Int} {F : File} (hs : Stands S g i F) :
    Calls Tryz.prog 31 #[pt B, gV g, .agg (nA F.node)] w fun e w' => ∃ v, e = .returned (.tuple #[v, .int .i64 0]) ∧ OwnR 3 1 intC w.heap.size w' v F.blocks ∧ Below w.heap.size w w' := by
  have hbl := fun (W : World) (hW : Below w.heap.size w W) => bblocks_any (h.below hW) hs
  obtain ⟨n, hn⟩ : ∃ n, F.node = n := ⟨_, rfl⟩
  rw [hn] at hbl ⊢
  obtain ⟨BL, hBL⟩ : ∃ BL, F.blocks = BL := ⟨_, rfl⟩
  rw [hBL] at hbl ⊢
  clear h hs hn hBL
  unfold nA iA at hbl ⊢
  obtain ⟨x0, h0⟩ : ∃ x, n.kind = x := ⟨_, rfl⟩
  obtain ⟨x1, h1⟩ : ∃ x, n.links = x := ⟨_, rfl⟩
  obtain ⟨x2, h2⟩ : ∃ x, n.size = x := ⟨_, rfl⟩
  obtain ⟨x3, h3⟩ : ∃ x, n.parent = x := ⟨_, rfl⟩
  obtain ⟨x4, h4⟩ : ∃ x, n.gen = x := ⟨_, rfl⟩
  obtain ⟨d0, h5⟩ : ∃ x, n.direct.getD 0 0 = x := ⟨_, rfl⟩
  obtain ⟨d1, h6⟩ : ∃ x, n.direct.getD 1 0 = x := ⟨_, rfl⟩
  obtain ⟨d2, h7⟩ : ∃ x, n.direct.getD 2 0 = x := ⟨_, rfl⟩
  obtain ⟨d3, h8⟩ : ∃ x, n.direct.getD 3 0 = x := ⟨_, rfl⟩
  obtain ⟨d4, h9⟩ : ∃ x, n.direct.getD 4 0 = x := ⟨_, rfl⟩
  obtain ⟨d5, h10⟩ : ∃ x, n.direct.getD 5 0 = x := ⟨_, rfl⟩
  obtain ⟨d6, h11⟩ : ∃ x, n.direct.getD 6 0 = x := ⟨_, rfl⟩
  obtain ⟨d7, h12⟩ : ∃ x, n.direct.getD 7 0 = x := ⟨_, rfl⟩
  obtain ⟨x6, h13⟩ : ∃ x, n.more = x := ⟨_, rfl⟩
  rw [h0, h1, h2, h3, h4, h5, h6, h7, h8, h9, h10, h11, h12, h13] at hbl ⊢
  clear h0 h1 h2 h3 h4 h5 h6 h7 h8 h9 h10 h11 h12 h13
  obtain ⟨ga, gb, gc⟩ := g
  unfold gV at hbl ⊢
  unfold pt at hbl ⊢
  obtain ⟨W0, hW0⟩ : ∃ W, w.alloc (.cells #[.int .i64 ga, .int .i64 gb, .int .i64 gc] 27) = W := ⟨_, rfl⟩
  have hk := g_keep hW0
  have HB0 := Lib.hid hk.1
  have HK := Lib.hid hk.2
  clear hk
  have hsz : W0.heap.size = w.heap.size + 1 := by rw [← hW0]; simp
  obtain ⟨W1, hW1⟩ : ∃ W, W0.alloc (.cells #[.int .i64 x0, .int .i64 x1, .int .i64 x2, .int .i64 x3, .int .i64 x4, .int .i64 d0, .int .i64 d1, .int .i64 d2, .int .i64 d3, .int .i64 d4, .int .i64 d5, .int .i64 d6, .int .i64 d7, .int .i64 x6] 56) = W := ⟨_, rfl⟩
  have hsz1 : W1.heap.size = w.heap.size + 2 := by rw [← hW1]; simp [hsz]
  obtain ⟨W2, hW2⟩ : ∃ W, W1.alloc (.cells #[.int .i64 0] 29) = W := ⟨_, rfl⟩
  have HB2 : Hid (Below W0.heap.size W0 W2) := by rw [← hW2, ← hW1]; exact bl1 (bl2 _) _
  have HZ1 : Hid (W2.heap[w.heap.size + 1]? = some (.cells #[.int .i64 x0, .int .i64 x1, .int .i64 x2, .int .i64 x3, .int .i64 x4, .int .i64 d0, .int .i64 d1, .int .i64 d2, .int .i64 d3, .int .i64 d4, .int .i64 d5, .int .i64 d6, .int .i64 d7, .int .i64 x6] 56 (0, 0))) := by
    rw [← hW2, ← hW1, ← hsz]
    exact heapOld (bl2 _) (heapNew W0 _)
  have HZ2 : Hid (W2.heap[w.heap.size + 2]? = some (.cells #[.int .i64 0] 29 (0, 0))) := by rw [← hW2, ← hsz1]; exact heapNew W1 _
  have HBL := Lib.hid (hbl W2 (blN HB0.out HB2.out))
  clear hbl
  obtain ⟨z0, z1, z2⟩ := HK.out W2 HB2.out
  obtain ⟨y0, -⟩ := blk_cells HZ1.out
  go_enter_defers Tryz.func31, Tryz.ntmps31
  go_wp2_with fail
  clear z0 z1 z2 y0
  refine HBL.out.mono ?_
  rintro e w3 ⟨v, rfl, ho3, hb3⟩
  have hz2 := heapOld hb3 HZ2.out
  have hbw := blN HB0.out HB2.out
  have hB3 : Below w.heap.size w (w3.setCell ⟨w.heap.size + 2, 0, none⟩ (.int .i64 0)) := (blN hbw hb3).setCell (p := ⟨w.heap.size + 2, 0, none⟩) (by show w.heap.size ≤ w.heap.size + 2; omega) _
  have ho4 : OwnR 3 1 intC w.heap.size (w3.setCell ⟨w.heap.size + 2, 0, none⟩ (.int .i64 0)) v BL := (ho3.turn (setCell_turn (b := w.heap.size + 2) (k := 0)) (fun k hk e => by
    have h1 := (ho3.lt k hk).1
    have h2 := (Array.getElem?_eq_some_iff.1 HZ2.out).1
    omega)).mono hbw.size
  have hz4 := setHeap_at (k := 0) hz2 (.int .i64 0)
  have HB4 := Lib.hid hB3
  have HO4 := Lib.hid ho4
  have HZ4 := Lib.hid hz4
  have c4 := cellOf (k := 0) hz2 rfl
  have v4 : w3.frozen? ⟨w.heap.size + 2, 0, none⟩ = false := freeOf hz2
  clear ho3 hb3 hz2 hbw hB3 ho4 hz4
  go_wp2
  refine leaves_cons (f := 94) (args := #[.pointer (some ⟨w.heap.size + 2, 0, none⟩)]) (by simp) (by simp [go_sem]) ?_
  refine (caught_idle ⟨w.heap.size + 2, 0, none⟩ _).mono ?_
  rintro e u' w'' ⟨rfl, rfl, rfl⟩
  have hb6 := HB4.out
  have ho6 := HO4.out
  have hz6 := HZ4.out
  clear HB4 HO4 HZ4 c4 v4
  generalize w3.setCell ⟨w.heap.size + 2, 0, none⟩ (.int .i64 0) = W6 at hb6 ho6 hz6 ⊢
  have t1 := cellOf (k := 0) hz6 rfl
  simp [Leaves, settle, results, Tryz.results31, go_sem, t1]
  exact ⟨ho6, hb6⟩
end
end Go.Proofs.YtaphcmcimoloiaaGreatDoor

namespace Go.Proofs.YtaphcmcimoloiaaGreatDoor
open Go Go.RowKit Txt Sp

/-- All blocks below R, but b, are as they were. -/
structure Kept (R b : Nat) (w w' : World) : Prop where
  os : w'.os = w.os
  tape : w'.tape = w.tape
  output : w'.output = w.output
  size : w.heap.size ≤ w'.heap.size
  block : ∀ k, k < R → k ≠ b → w'.heap[k]? = w.heap[k]?
section
set_option maxHeartbeats 4000000
end
end Go.Proofs.YtaphcmcimoloiaaGreatDoor

namespace Go.Proofs.YtaphcmcimoloiaaGreatDoor
open Go Go.RowKit Txt Sp

section
set_option maxHeartbeats 4000000
end
end Go.Proofs.YtaphcmcimoloiaaGreatDoor

namespace Go.Proofs.YtaphcmcimoloiaaGreatDoor
open Go Go.RowKit Txt Sp

theorem block_ok {g : Sp.Geom} (hg : g.ok) {k p : Int} (hk : 0 ≤ k ∧ k < g.groups) (hp : 0 ≤ p ∧ p < g.blocks) : blockOk g (blockNo g k p) := by
  obtain ⟨h0, h1, h2⟩ := block_kind hg hk hp
  refine Or.inr ?_
  unfold Sp.Geom.what
  have hw : g.within (blockNo g k p) g.size = 0 := by
    unfold Sp.Geom.within
    rw [if_pos hg, if_neg (by omega)]
  rw [if_pos hw, h2]
  exact ⟨rfl, rfl⟩
end Go.Proofs.YtaphcmcimoloiaaGreatDoor
