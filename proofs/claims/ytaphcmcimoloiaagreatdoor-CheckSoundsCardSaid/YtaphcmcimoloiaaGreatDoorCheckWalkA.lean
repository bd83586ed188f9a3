/-
  Walks of layer 19: tell, at, blocks.
-/
import Derived.Test.YtaphcmcimoloiaaGreatDoorCheckName
import Derived.Test.YtaphcmcimoloiaaGreatDoorDepB
import Derived.Test.YtaphcmcimoloiaaGreatDoorBmC
import Derived.Deep.RegionHeld3
import Derived.StillTailTactics
namespace Go.Proofs.YtaphcmcimoloiaaGreatDoor
open Go Go.RowKit Txt Sp

def SecsAt (w : World) (vs : Value) (N : Nat) (S : Int → ByteArray) (D : Nat → Prop) : Prop :=
  ∃ b o cap, vs = .slice (some ⟨b, o, none⟩) N cap ∧ b < w.heap.size ∧ ¬ D b ∧ N ≤ 1000000 ∧ ∀ k : Nat, k < N → w.cell? ⟨b, o + k, none⟩ = some (.string (S k))
section
variable {w w1 w' : World} {base B N : Nat} {g : Sp.Geom} {vs : Value} {m : LookP} {t t' : Sp.Look} {D D' K : Nat → Prop} {S : Int → ByteArray}
theorem SecsAt.turn (h : SecsAt w vs N S D) (hT : Turn D w w') : SecsAt w' vs N S D := by
  obtain ⟨b, o, cap, e, hb, hd, hn, hc⟩ := h
  have hz := hT.size
  refine ⟨b, o, cap, e, by omega, hd, hn, fun k hk => ?_⟩
  have h1 := hc k hk
  unfold World.cell? at h1 ⊢
  simp only at h1 ⊢
  rw [hT.block b hb hd]
  exact h1
theorem SecsAt.below (h : SecsAt w vs N S D) (hb : Below w.heap.size w w') : SecsAt w' vs N S D := h.turn (Turn.of_below hb)
theorem SecsAt.to (h : SecsAt w vs N S D) (hL : LookTo w base B g vs m t D w' D') : SecsAt w' vs N S D' := by
  obtain ⟨b, o, cap, e, hb, hd, hn, hc⟩ := h.turn hL.2.2
  refine ⟨b, o, cap, e, hb, fun hj => (hL.2.1 b hj).elim hd (fun hj => ?_), hn, hc⟩
  obtain ⟨b', o', cap', e', hb', _⟩ := h
  rw [e] at e'
  cases e'
  omega
theorem SecsAt.facts (h : SecsAt w vs N S D) {k : Nat} (hk : k < N) : ∃ b o cap, vs = .slice (some ⟨b, o, none⟩) N cap ∧ N ≤ 1000000 ∧ w.cell? ⟨b, o + k, none⟩ = some (.string (S k)) := by
  obtain ⟨b, o, cap, e, _, _, hn, hc⟩ := h
  exact ⟨b, o, cap, e, hn, hc k hk⟩
theorem LookTo.turned (h : LookTo w base B g vs m t D w1 D') (hB : B < w.heap.size) (hT : Turn K w1 w') (hK : ∀ j, K j → ¬ D' j ∧ w.heap.size ≤ j) : LookTo w base B g vs m t D w' D' := by
  obtain ⟨h1, h2, h3⟩ := h
  have hz := hT.size
  exact ⟨h1.turn hT (fun j hd hk => (hK j hk).1 hd) (fun hk => by have := (hK B hk).2; omega), fun j hj => (h2 j hj).imp_right (fun h => ⟨h.1, by omega⟩), h3.trans hT (fun _ _ h => h) (fun j hj hk => by have := (hK j hk).2; omega)⟩
theorem grown_turn {row : Option Nat} (hg : w.grownBy w' row) : Turn (fun j => row = some j) w w' := ⟨hg.os, hg.tape, hg.output, hg.size, fun k hk hne => hg.block k hk (fun e => hne e.symm)⟩
theorem LookAt.cells (h : LookAt w base B g vs m t D) : (w.cell? ⟨B, 0, none⟩ = some (.int .i64 g.groups) ∧ w.cell? ⟨B, 1, none⟩ = some (.int .i64 g.inodes) ∧ w.cell? ⟨B, 2, none⟩ = some (.int .i64 g.blocks)) ∧ w.cell? ⟨B, 3, none⟩ = some vs ∧
    w.cell? ⟨B, 4, none⟩ = some (.map (some m.nodes)) ∧ w.cell? ⟨B, 5, none⟩ = some (.map (some m.inn)) ∧ w.cell? ⟨B, 6, none⟩ = some (.map (some m.names)) ∧ w.cell? ⟨B, 7, none⟩ = some (.map (some m.named)) ∧ w.cell? ⟨B, 8, none⟩ = some (.map (some m.found)) :=
  ⟨⟨cellOf h.box rfl, cellOf h.box rfl, cellOf h.box rfl⟩, cellOf h.box rfl, cellOf h.box rfl, cellOf h.box rfl, cellOf h.box rfl, cellOf h.box rfl, cellOf h.box rfl⟩
set_option maxHeartbeats 1000000
set_option maxRecDepth 20000
theorem ctell_any (h : LookAt w base B g vs m t D) (k a : Int) : Calls Tryz.prog 207 #[pt B, .int .i64 k, .int .i64 a] w fun e w' => e = .returned (.tuple #[]) ∧ LookTo w base B g vs m (t.tell k a) D w' D := by
  obtain ⟨W, hrun, hW, hT⟩ := h.tell k a
  obtain ⟨-, -, -, -, -, -, c8⟩ := h.cells
  have HQ : Hid (LookTo w base B g vs m (t.tell k a) D W D) := ⟨hW, fun _ h => Or.inl h, hT.mono (fun j _ hj => by rw [show j = m.found from hj]; exact h.own.2.2.2.2)⟩
  unfold pt
  clear hW hT h
  go_enter Tryz.func207, Tryz.ntmps207
  go_wp2
  go_end0
  exact ⟨rfl, HQ.out⟩
theorem cat_any (h : LookAt w base B g vs m t D) (i : Int) : Calls Tryz.prog 208 #[pt B, .int .i64 i] w fun e w' => e = .returned (.int .i64 (inodeAt g i).1) ∧ Below w.heap.size w w' := by
  have hi := fun W : World => ginode_any W g i
  obtain ⟨⟨c0, c1, c2⟩, -⟩ := h.cells
  obtain ⟨x, hx⟩ : ∃ x, inodeAt g i = x := ⟨_, rfl⟩
  rw [hx] at hi ⊢
  obtain ⟨x1, x2, x3, x4⟩ := x
  unfold gV at hi
  dsimp only at hi ⊢
  obtain ⟨ga, gb, gc⟩ := g
  dsimp only at hi c0 c1 c2
  unfold pt
  have HI := Lib.hid hi
  clear hi
  clear h hx
  go_enter Tryz.func208, Tryz.ntmps208
  go_wp2_with fail
  refine (HI.out _).mono ?_
  rintro e w1 ⟨rfl, hb1⟩
  have HB1 := Lib.hid hb1
  clear hb1 c0 c1 c2
  go_wp2
  go_ret
  exact ⟨rfl, HB1.out⟩
theorem list8x {l : List Int} (h : l.length = 8) : ∃ a b c d e f g i, l = [a, b, c, d, e, f, g, i] := by
  match l, h with
  | [a, b, c, d, e, f, g, i], _ => exact ⟨a, b, c, d, e, f, g, i, rfl⟩
theorem ints_direct {W : World} {b : Nat} {x0 x1 x2 x3 x4 d0 d1 d2 d3 d4 d5 d6 d7 x6 : Int} (h : W.heap[b]? = some (.cells #[.int .i64 x0, .int .i64 x1, .int .i64 x2, .int .i64 x3, .int .i64 x4, .int .i64 d0, .int .i64 d1, .int .i64 d2, .int .i64 d3, .int .i64 d4, .int .i64 d5, .int .i64 d6, .int .i64 d7, .int .i64 x6] 56 (0, 0))) :
    Ints W (.slice (some ⟨b, 5, none⟩) 8 8) [d0, d1, d2, d3, d4, d5, d6, d7] :=
  ints_block (o := 5) h (fun j y hj => by
    have h8 : j < 8 := (List.getElem?_eq_some_iff.1 hj).1
    match j, h8, hj with
    | 0, _, hj | 1, _, hj | 2, _, hj | 3, _, hj | 4, _, hj | 5, _, hj | 6, _, hj | 7, _, hj => (have e := Option.some.inj hj; rw [← e]; rfl)
    | k + 8, h, _ => omega) (by unfold maxLen; simp) rfl
def BlksPost (w : World) (base B : Nat) (g : Sp.Geom) (vs : Value) (m : LookP) (D : Nat → Prop) (p : Sp.Look × List Int) (e : Ending) (w' : World) : Prop :=
  ∃ v, e = .returned v ∧ OwnR 3 1 intC w.heap.size w' v p.2 ∧ LookTo w base B g vs m p.1 D w' D
set_option maxHeartbeats 4000000 in
theorem cblocks_any (h : LookAt w base B g vs m t D) (hs : SecsAt w vs N S D) (hN : (N : Int) = g.size) {n : Sp.Inode} (hn : NodeOk g n) : Calls Tryz.prog 269 #[pt B, .agg (nA n)] w (BlksPost w base B g vs m D (t.blocks g S n)) := by
  obtain ⟨ga, gb, gc⟩ := g
  have hmore := hn.more
  have hlen := hn.len
  obtain ⟨x0, x1, x2, x3, x4, dd, x6⟩ := n
  dsimp only at hmore hlen
  obtain ⟨d0, d1, d2, d3, d4, d5, d6, d7, rfl⟩ := list8x hlen
  have hno : x6 = 0 → t.blocks ⟨ga, gb, gc⟩ S ⟨x0, x1, x2, x3, x4, [d0, d1, d2, d3, d4, d5, d6, d7], x6⟩ = (t, [d0, d1, d2, d3, d4, d5, d6, d7]) := fun e => by unfold Look.blocks; rw [if_pos e]
  obtain ⟨b, hb⟩ : ∃ b, t.blocks ⟨ga, gb, gc⟩ S ⟨x0, x1, x2, x3, x4, [d0, d1, d2, d3, d4, d5, d6, d7], x6⟩ = b := ⟨_, rfl⟩
  rw [hb] at hno ⊢
  obtain ⟨W0, hW0⟩ : ∃ W, w.alloc (.cells #[.int .i64 x0, .int .i64 x1, .int .i64 x2, .int .i64 x3, .int .i64 x4, .int .i64 d0, .int .i64 d1, .int .i64 d2, .int .i64 d3, .int .i64 d4, .int .i64 d5, .int .i64 d6, .int .i64 d7, .int .i64 x6] 56) = W := ⟨_, rfl⟩
  have HB0 : Hid (Below w.heap.size w W0) := by rw [← hW0]; exact bl2 _
  have HZ0 : Hid (W0.heap[w.heap.size]? = some (.cells #[.int .i64 x0, .int .i64 x1, .int .i64 x2, .int .i64 x3, .int .i64 x4, .int .i64 d0, .int .i64 d1, .int .i64 d2, .int .i64 d3, .int .i64 d4, .int .i64 d5, .int .i64 d6, .int .i64 d7, .int .i64 x6] 56 (0, 0))) := by rw [← hW0]; exact heapNew w _
  have hcl := cloneInts_any (ints_direct HZ0.out) (by simp)
  unfold nA iA pt
  dsimp only
  have HL := Lib.hid h
  have HSec := Lib.hid hs
  have HCL := Lib.hid hcl
  clear hcl
  clear h hs hn hlen
  by_cases h0 : x6 = 0
  · have HE := Lib.hid (hno h0)
    have hm0 : (x6 == 0) = true := by rw [h0]; rfl
    clear hno hb h0 hmore hN
    go_enter Tryz.func269, Tryz.ntmps269
    go_wp2_with fail
    refine HCL.out.mono ?_
    rintro e w1 ⟨v1, rfl, ho1, hb1⟩
    have HO1 := Lib.hid (ho1.mono HB0.out.size)
    have HB1 := Lib.hid (blN HB0.out hb1)
    have y13 : w1.cell? ⟨w.heap.size, 13, none⟩ = some (.int .i64 x6) := cellOf (heapOld hb1 HZ0.out) rfl
    clear hb1 ho1 hW0
    go_wp2
    go_ret
    refine ⟨v1, rfl, ?_, ?_⟩
    · rw [HE.out]; exact HO1.out
    · rw [HE.out]; exact LookTo.none HL.out HB1.out
  · have hx := blockOk_bd hmore h0
    rw [← hN] at hx
    obtain ⟨k6, hk6⟩ : ∃ k : Nat, x6 = (k : Int) := ⟨x6.toNat, by omega⟩
    subst hk6
    have hx6 : k6 < N := by omega
    have hm0 : ((k6 : Int) == 0) = false := beq_eq_false_iff_ne.2 h0
    have hyes : t.blocks ⟨ga, gb, gc⟩ S ⟨x0, x1, x2, x3, x4, [d0, d1, d2, d3, d4, d5, d6, d7], (k6 : Int)⟩ = (if listC ⟨ga, gb, gc⟩ (S (k6 : Int)) = 0 then t.count (k6 : Int) else (t.count (k6 : Int)).tell 1 (k6 : Int), [d0, d1, d2, d3, d4, d5, d6, d7] ++ (if listC ⟨ga, gb, gc⟩ (S (k6 : Int)) = 0 then listOf (S (k6 : Int)) else [])) := by unfold Look.blocks; rw [if_neg h0]
    have HE : Hid (b = (if listC ⟨ga, gb, gc⟩ (S (k6 : Int)) = 0 then t.count (k6 : Int) else (t.count (k6 : Int)).tell 1 (k6 : Int), [d0, d1, d2, d3, d4, d5, d6, d7] ++ (if listC ⟨ga, gb, gc⟩ (S (k6 : Int)) = 0 then listOf (S (k6 : Int)) else []))) := hb.symm.trans hyes
    clear hno hb h0 hmore hyes hN
    go_enter Tryz.func269, Tryz.ntmps269
    go_wp2_with fail
    refine HCL.out.mono ?_
    rintro e w1 ⟨v1, rfl, ho1, hb1⟩
    have HO1 := Lib.hid (ho1.mono HB0.out.size)
    have HB1 := Lib.hid (blN HB0.out hb1)
    have hl1 := HL.out.below (blD HB1.out)
    obtain ⟨W2, hrun, hl2, hT2⟩ := hl1.count (k6 : Int)
    have hcnt := hl1.run_cnt (k6 : Int)
    obtain ⟨q, hq⟩ : ∃ q, t.cnt (k6 : Int) = q := ⟨_, rfl⟩
    rw [hq] at hrun hcnt
    have HZ1 : Hid (w1.drew.heap[w.heap.size]? = some (.cells #[.int .i64 x0, .int .i64 x1, .int .i64 x2, .int .i64 x3, .int .i64 x4, .int .i64 d0, .int .i64 d1, .int .i64 d2, .int .i64 d3, .int .i64 d4, .int .i64 d5, .int .i64 d6, .int .i64 d7, .int .i64 (k6 : Int)] 56 (0, 0))) := heapOld hb1 HZ0.out
    have hmlt : m.named < w.heap.size := (HL.out.low.2 _ HL.out.own.2.2.2.1).2
    have HZ2 := Lib.hid (hT2.heap HZ1.out (fun e => by have e : w.heap.size = m.named := e; omega))
    have HO2 := Lib.hid (OwnR.turn HO1.out ((Turn.of_below (K := fun j => j = m.named) (blD (Below.refl w1.heap.size w1))).trans (K := fun j => j = m.named) hT2 (fun _ _ h => h) (fun _ _ h => h)) (fun k hk e => by have := (OwnR.lt ho1 k hk).1; have := HB0.out.size; have e : k = m.named := e; omega))
    have HT2 : Hid (Turn D w W2) := (Turn.of_below (K := D) (blD HB1.out)).trans hT2 (fun _ _ h => h) (fun k _ e => by rw [show k = m.named from e]; exact HL.out.own.2.2.2.1)
    have HL2 := Lib.hid hl2
    obtain ⟨-, -, -, -, -, c7, -⟩ := (HL.out.below HB1.out).cells
    have y13 : w1.cell? ⟨w.heap.size, 13, none⟩ = some (.int .i64 (k6 : Int)) := cellOf (heapOld hb1 HZ0.out) rfl
    clear hb1 ho1 hW0 hl1 hl2 hT2 hmlt hq
    go_wp2_with fail
    go_still_tail 8, (by kernel_rfl)
    clear hcnt c7 y13
    go_wp2_with fail
    clear hrun
    have hsec := HSec.out.turn HT2.out
    obtain ⟨bv, o, cap, rfl, hN6, hcell⟩ := hsec.facts hx6
    obtain ⟨s, hs⟩ : ∃ s, S (k6 : Int) = s := ⟨_, rfl⟩
    rw [hs] at hcell
    have HE2 : Hid (b = (if listC ⟨ga, gb, gc⟩ s = 0 then t.count (k6 : Int) else (t.count (k6 : Int)).tell 1 (k6 : Int), [d0, d1, d2, d3, d4, d5, d6, d7] ++ (if listC ⟨ga, gb, gc⟩ s = 0 then listOf s else []))) := by rw [← hs]; exact HE.out
    have hil := fun W : World => ilist_any W ⟨ga, gb, gc⟩ s
    have hll : (if listC ⟨ga, gb, gc⟩ s = 0 then listOf s else []).length ≤ 32 := by split <;> simp [listOf]
    obtain ⟨L, hL⟩ : ∃ L, (if listC ⟨ga, gb, gc⟩ s = 0 then listOf s else []) = L := ⟨_, rfl⟩
    unfold ListPost at hil
    rw [hL] at hil hll HE2
    obtain ⟨c, hc⟩ : ∃ c, listC ⟨ga, gb, gc⟩ s = c := ⟨_, rfl⟩
    rw [hc] at hil HE2
    have hk : ∀ W, Below W2.heap.size W2 W → W.cell? ⟨B, 0, none⟩ = some (.int .i64 ga) ∧ W.cell? ⟨B, 1, none⟩ = some (.int .i64 gb) ∧ W.cell? ⟨B, 2, none⟩ = some (.int .i64 gc) ∧ W.cell? ⟨B, 3, none⟩ = some (.slice (some ⟨bv, o, none⟩) N cap) ∧ W.cell? ⟨w.heap.size, 13, none⟩ = some (.int .i64 (k6 : Int)) ∧ W.cell? ⟨bv, o + k6, none⟩ = some (.string s) := fun W hW => by
      obtain ⟨⟨a0, a1, a2⟩, a3, -⟩ := (HL2.out.below hW).cells
      obtain ⟨bv', o', cap', e', -, hcell'⟩ := (hsec.below hW).facts hx6
      cases e'
      rw [hs] at hcell'
      exact ⟨a0, a1, a2, a3, cellOf (heapOld hW HZ2.out) rfl, hcell'⟩
    have hx0 : (0 : Int) ≤ (k6 : Int) := hx.1
    have hx1 : (k6 : Int) < (N : Int) := hx.2
    clear hx
    have HK := Lib.hid hk
    unfold gV at hil
    dsimp only at hil
    have HIL := Lib.hid hil
    clear hil
    clear hsec hcell hs hL hc hk HE HZ1 HO1
    obtain ⟨z0, z1, z2, z3, z4, z5⟩ := HK.out W2.drew (blD (Below.refl _ _))
    have hS2 := HK.out W2.drew (blD (Below.refl _ _))
    refine wp_region_held_drew (S := (fun W => W.cell? ⟨B, 0, none⟩ = some (.int .i64 ga) ∧ W.cell? ⟨B, 1, none⟩ = some (.int .i64 gb) ∧ W.cell? ⟨B, 2, none⟩ = some (.int .i64 gc) ∧ W.cell? ⟨B, 3, none⟩ = some (.slice (some ⟨bv, o, none⟩) N cap) ∧ W.cell? ⟨w.heap.size, 13, none⟩ = some (.int .i64 (k6 : Int)) ∧ W.cell? ⟨bv, o + k6, none⟩ = some (.string s))) (by kernel_rfl) (by first | trivial | assumption) (fun hHeld => ?_)
    refine wpAnyH_take (i := 0) (v := ?_) rfl (by kernel_rfl) (by kernel_rfl) (by kernel_rfl) (fun _ _ _ h => h) (Or.inl ⟨by rfl, ?_⟩) hHeld ?_
    rotate_left
    · (intro w hSw; first | (go_simp; done) | (go_simp; with_reducible rfl))
    simp only [Act.put, List.setIfInBounds_toArray, List.set_cons_zero, List.set_cons_succ, List.getElem_toArray, List.getElem_cons_zero]
    refine wpAnyH_take (i := 1) (v := ?_) rfl (by kernel_rfl) (by kernel_rfl) (by kernel_rfl) (fun _ _ _ h => h) (Or.inl ⟨by rfl, ?_⟩) hHeld ?_
    rotate_left
    · (intro w hSw; first | (go_simp; done) | (go_simp; with_reducible rfl))
    simp only [Act.put, List.setIfInBounds_toArray, List.set_cons_zero, List.set_cons_succ, List.getElem_toArray, List.getElem_cons_zero, List.getElem_cons_succ]
    refine wpAnyH_take (i := 2) (v := ?_) rfl (by kernel_rfl) (by kernel_rfl) (by kernel_rfl) (fun _ _ _ h => h) (Or.inl ⟨by rfl, ?_⟩) hHeld ?_
    rotate_left
    · (intro w hSw; first | (go_simp; done) | (go_simp; with_reducible rfl))
    simp only [Act.put, List.setIfInBounds_toArray, List.set_cons_zero, List.set_cons_succ, List.getElem_toArray, List.getElem_cons_zero, List.getElem_cons_succ]
    refine wpAnyH_take (i := 3) (v := ?_) rfl (by kernel_rfl) (by kernel_rfl) (by kernel_rfl) (fun _ _ _ h => h) (Or.inl ⟨by rfl, ?_⟩) hHeld ?_
    rotate_left
    · (intro w hSw; first | (go_simp; done) | (go_simp; with_reducible rfl))
    simp only [Act.put, List.setIfInBounds_toArray, List.set_cons_zero, List.set_cons_succ, List.getElem_toArray, List.getElem_cons_zero, List.getElem_cons_succ]
    refine wpAnyH_take (i := 4) (v := ?_) rfl (by kernel_rfl) (by kernel_rfl) (by kernel_rfl) (fun _ _ _ h => h) (Or.inl ⟨by rfl, ?_⟩) hHeld ?_
    rotate_left
    · (intro w hSw; first | (go_simp; done) | (go_simp; with_reducible rfl))
    simp only [Act.put, List.setIfInBounds_toArray, List.set_cons_zero, List.set_cons_succ, List.getElem_toArray, List.getElem_cons_zero, List.getElem_cons_succ]
    refine wpAnyH_take (i := 5) (v := ?_) rfl (by kernel_rfl) (by kernel_rfl) (by kernel_rfl) (fun _ _ _ h => h) (Or.inl ⟨by rfl, ?_⟩) hHeld ?_
    rotate_left
    · (intro w hSw; first | (go_simp; done) | (go_simp; with_reducible rfl))
    simp only [Act.put, List.setIfInBounds_toArray, List.set_cons_zero, List.set_cons_succ, List.getElem_toArray, List.getElem_cons_zero, List.getElem_cons_succ]
    refine wpAnyH_take (i := 6) (v := ?_) rfl (by kernel_rfl) (by kernel_rfl) (by kernel_rfl) (fun _ _ _ h => h) (Or.inl ⟨by rfl, ?_⟩) hHeld ?_
    rotate_left
    · (intro w hSw; first | (go_simp; done) | (go_simp; with_reducible rfl))
    simp only [Act.put, List.setIfInBounds_toArray, List.set_cons_zero, List.set_cons_succ, List.getElem_toArray, List.getElem_cons_zero, List.getElem_cons_succ]
    refine wpAnyH_take (i := 7) (v := ?_) rfl (by kernel_rfl) (by kernel_rfl) (by kernel_rfl) (fun _ _ _ h => h) (Or.inl ⟨by rfl, ?_⟩) hHeld ?_
    rotate_left
    · (intro w hSw; first | (go_simp; done) | (go_simp; with_reducible rfl))
    simp only [Act.put, List.setIfInBounds_toArray, List.set_cons_zero, List.set_cons_succ, List.getElem_toArray, List.getElem_cons_zero, List.getElem_cons_succ]
    refine wpAnyH_take (i := 8) (v := ?_) rfl (by kernel_rfl) (by kernel_rfl) (by kernel_rfl) (fun _ _ _ h => h) (Or.inl ⟨by rfl, ?_⟩) hHeld ?_
    rotate_left
    · (intro w hSw; first | (go_simp; done) | (go_simp; with_reducible rfl))
    simp only [Act.put, List.setIfInBounds_toArray, List.set_cons_zero, List.set_cons_succ, List.getElem_toArray, List.getElem_cons_zero, List.getElem_cons_succ]
    refine wpAnyH_take (i := 9) (v := ?_) rfl (by kernel_rfl) (by kernel_rfl) (by kernel_rfl) (fun _ _ _ h => h) (Or.inl ⟨by rfl, ?_⟩) hHeld ?_
    rotate_left
    · (intro w hSw; first | (go_simp; done) | (go_simp; with_reducible rfl))
    simp only [Act.put, List.setIfInBounds_toArray, List.set_cons_zero, List.set_cons_succ, List.getElem_toArray, List.getElem_cons_zero, List.getElem_cons_succ]
    refine wpAnyH_take (i := 10) (v := ?_) rfl (by kernel_rfl) (by kernel_rfl) (by kernel_rfl) (fun _ _ _ h => h) (Or.inl ⟨by rfl, ?_⟩) hHeld ?_
    rotate_left
    · (intro w hSw; first | (go_simp; done) | (go_simp; with_reducible rfl))
    simp only [Act.put, List.setIfInBounds_toArray, List.set_cons_zero, List.set_cons_succ, List.getElem_toArray, List.getElem_cons_zero, List.getElem_cons_succ]
    refine wpAnyH_take (i := 11) (v := ?_) rfl (by kernel_rfl) (by kernel_rfl) (by kernel_rfl) (fun _ _ _ h => h) (Or.inl ⟨by rfl, ?_⟩) hHeld ?_
    rotate_left
    · (intro w hSw; first | (go_simp; done) | (go_simp; with_reducible rfl))
    simp only [Act.put, List.setIfInBounds_toArray, List.set_cons_zero, List.set_cons_succ, List.getElem_toArray, List.getElem_cons_zero, List.getElem_cons_succ]
    refine wpAnyH_ready (rs := [12]) (by kernel_rfl) (by simp) ?_
    refine AllReadyH.cons rfl (fun K hK => ?_) AllReadyH.nil
    try simp only [List.getElem_toArray, List.getElem_cons_zero, List.getElem_cons_succ]
    go_simp
    refine (HIL.out _).mono ?_
    rintro e w3 ⟨v3, rfl, ho3, hb3⟩
    have HB3 : Hid (Below W2.heap.size W2 w3) := blN (blD (Below.refl _ _)) hb3
    have HO3 := Lib.hid ho3
    clear hb3 ho3
    try simp only
    refine hK.out _ _ ?hkS (fun hHeld => ?_)
    case hkS =>
      exact HK.out _ HB3.out
    clear hK K
    try simp only [Act.put, List.setIfInBounds_toArray, List.set_cons_zero, List.set_cons_succ]
    refine wpAnyH_take (i := 13) (v := ?_) rfl (by kernel_rfl) (by kernel_rfl) (by kernel_rfl) (fun _ _ _ h => h) (Or.inl ⟨by rfl, ?_⟩) hHeld ?_
    rotate_left
    · (intro w hSw; first | (go_simp; done) | (go_simp; with_reducible rfl))
    simp only [Act.put, List.setIfInBounds_toArray, List.set_cons_zero, List.set_cons_succ, List.getElem_toArray, List.getElem_cons_zero, List.getElem_cons_succ]
    refine wpAnyH_take (i := 14) (v := ?_) rfl (by kernel_rfl) (by kernel_rfl) (by kernel_rfl) (fun _ _ _ h => h) (Or.inl ⟨by rfl, ?_⟩) hHeld ?_
    rotate_left
    · (intro w hSw; first | (go_simp; done) | (go_simp; with_reducible rfl))
    simp only [Act.put, List.setIfInBounds_toArray, List.set_cons_zero, List.set_cons_succ, List.getElem_toArray, List.getElem_cons_zero, List.getElem_cons_succ]
    refine wpAnyH_take (i := 15) (v := ?_) rfl (by kernel_rfl) (by kernel_rfl) (by kernel_rfl) (fun _ _ _ h => h) (Or.inl ⟨by rfl, ?_⟩) hHeld ?_
    rotate_left
    · (intro w hSw; first | (go_simp; done) | (go_simp; with_reducible rfl))
    simp only [Act.put, List.setIfInBounds_toArray, List.set_cons_zero, List.set_cons_succ, List.getElem_toArray, List.getElem_cons_zero, List.getElem_cons_succ]
    refine wpAnyH_take (i := 16) (v := ?_) rfl (by kernel_rfl) (by kernel_rfl) (by kernel_rfl) (fun _ _ _ h => h) (Or.inl ⟨by rfl, ?_⟩) hHeld ?_
    rotate_left
    · (intro w hSw; first | (go_simp; done) | (go_simp; with_reducible rfl))
    simp only [Act.put, List.setIfInBounds_toArray, List.set_cons_zero, List.set_cons_succ, List.getElem_toArray, List.getElem_cons_zero, List.getElem_cons_succ]
    refine wpAnyH_take (i := 17) (v := ?_) rfl (by kernel_rfl) (by kernel_rfl) (by kernel_rfl) (fun _ _ _ h => h) (Or.inl ⟨by rfl, ?_⟩) hHeld ?_
    rotate_left
    · (intro w hSw; first | (go_simp; done) | (go_simp; with_reducible rfl))
    simp only [Act.put, List.setIfInBounds_toArray, List.set_cons_zero, List.set_cons_succ, List.getElem_toArray, List.getElem_cons_zero, List.getElem_cons_succ]
    refine wpAnyH_done (by kernel_rfl) ?_ _
    have HO2b := Lib.hid (OwnR.below HO2.out HB3.out)
    have HA : Hid (LookTo w base B ⟨ga, gb, gc⟩ (.slice (some ⟨bv, o, none⟩) N cap) m (t.count k6) D w3 D) := ⟨HL2.out.below HB3.out, fun _ h => Or.inl h, HT2.out.trans (Turn.of_below (K := D) HB3.out) (fun _ _ h => h) (fun _ _ h => h)⟩
    have y13 : w3.cell? ⟨w.heap.size, 13, none⟩ = some (.int .i64 (k6 : Int)) := cellOf (heapOld HB3.out HZ2.out) rfl
    have HZ3 : Hid (w.heap.size ≤ w3.heap.size) := HA.out.size
    obtain ⟨ia, ib, ic, id, ie⟩ := info_parts infoInt
    clear hS2 z0 z1 z2 z3 z4 z5
    have HFin : Hid (∀ (W W' : World) (u : Look) (v5 : Value), LookTo w base B ⟨ga, gb, gc⟩ (.slice (some ⟨bv, o, none⟩) N cap) m u D W D → OwnR 3 1 intC w.heap.size W v1 [d0, d1, d2, d3, d4, d5, d6, d7] → W.grownBy W' v1.ownBlock → W'.ownsRow w.heap.size 3 1 v5 ([d0, d1, d2, d3, d4, d5, d6, d7].length + L.length) ([d0, d1, d2, d3, d4, d5, d6, d7].flatMap intC ++ L.flatMap intC) → b = (u, [d0, d1, d2, d3, d4, d5, d6, d7] ++ L) →
        BlksPost w base B ⟨ga, gb, gc⟩ (.slice (some ⟨bv, o, none⟩) N cap) m D b (.returned v5) W') := fun W W' u v5 hto hrow hg hown e => by
      subst e
      refine ⟨v5, rfl, ?_, hto.turned HL.out.ltB (grown_turn hg) (fun j hj => ?_)⟩
      · unfold OwnR
        rw [List.length_append, List.flatMap_append]
        exact hown
      · have h1 := (OwnR.lt hrow j hj).1
        exact ⟨fun hd => by have := (HL.out.low.2 j hd).2; omega, h1⟩
    by_cases hc0 : c = 0
    · have hq0 : (c == 0) = true := by rw [hc0]; rfl
      have hq1 : (c != 0) = false := by rw [hc0]; rfl
      rw [if_pos hc0] at HE2
      clear hc0
      go_wp2_with (at_builtin; refine wpList_append_rows _ rfl (.tmp 45) (.tmp 46) _ rfl w.heap.size W2.drew.heap.size 3 ia _ 1 8 Tryz.underlying48 ib ic id ie rfl (by decide) v1 v3 [d0, d1, d2, d3, d4, d5, d6, d7].length L.length ([d0, d1, d2, d3, d4, d5, d6, d7].flatMap intC) (L.flatMap intC) rfl HO2b.out rfl HO3.out ?c1 ?c2 ?c3 ?c4 ?_)
      case c1 => rw [intC_map]; intro u hu; obtain ⟨s, _, rfl⟩ := List.mem_map.1 hu; rfl
      case c2 => unfold maxLen; simp; omega
      case c3 => simp; omega
      case c4 => exact HZ3.out
      intro v5 w5 hown5 hg5
      have HP := Lib.hid (HFin.out w3 w5 _ v5 HA.out HO2b.out hg5 hown5 HE2.out)
      clear hown5 hg5
      go_wp2
      go_ret
      exact HP.out
    · have hq0 : (c == 0) = false := beq_eq_false_iff_ne.2 hc0
      have hq1 : (c != 0) = true := by simpa using hc0
      rw [if_neg hc0] at HE2
      clear hc0
      have htl := ctell_any HA.out.1 1 (k6 : Int)
      unfold pt at htl
      have HTL := Lib.hid htl
      clear htl
      go_wp2_with fail
      refine HTL.out.mono ?_
      rintro e w4 ⟨rfl, hto4⟩
      have HA4 := Lib.hid (HA.out.trans hto4)
      have HO4 := Lib.hid (hto4.row HO2b.out (fun k hk hd => by have := (OwnR.lt HO2b.out k hk).1; have := (HL.out.low.2 k hd).2; omega)).1
      have HO4b := Lib.hid (hto4.row HO3.out (fun k hk hd => by have := (OwnR.lt HO3.out k hk).1; have := (HL.out.low.2 k hd).2; have h5 := HT2.out.size; have h6 : W2.drew.heap.size = W2.heap.size := rfl; omega)).1
      have HZ4 : Hid (w.heap.size ≤ w4.heap.size) := HA4.out.size
      clear hto4 y13
      go_wp2_with (at_builtin; refine wpList_append_rows _ rfl (.tmp 45) (.tmp 46) _ rfl w.heap.size W2.drew.heap.size 3 ia _ 1 8 Tryz.underlying48 ib ic id ie rfl (by decide) v1 v3 [d0, d1, d2, d3, d4, d5, d6, d7].length L.length ([d0, d1, d2, d3, d4, d5, d6, d7].flatMap intC) (L.flatMap intC) rfl HO4.out rfl HO4b.out ?k1 ?k2 ?k3 ?k4 ?_)
      case k1 => rw [intC_map]; intro u hu; obtain ⟨s, _, rfl⟩ := List.mem_map.1 hu; rfl
      case k2 => unfold maxLen; simp; omega
      case k3 => simp; omega
      case k4 => exact HZ4.out
      intro v5 w5 hown5 hg5
      have HP := Lib.hid (HFin.out w4 w5 _ v5 HA4.out HO4.out hg5 hown5 HE2.out)
      clear hown5 hg5
      go_wp2
      go_ret
      exact HP.out
end
end Go.Proofs.YtaphcmcimoloiaaGreatDoor
