/-
  Walks of layer 15's laws: works.
-/
import Derived.Test.YtgofmnhfajmbfaaGreatDoorAllC
namespace Go.Proofs.YtgofmnhfajmbfaaGreatDoor
open Go Go.RowKit Txt Sp

def wkG15 : Sp.Geom := ⟨1, 2, 3⟩
theorem wk_inode : ((freshSide wkG15 0 0).inode wkG15 [0]).2 = (2, 1, 0) := by decide +kernel
theorem wk_block : ((((freshSide wkG15 0 0).inode wkG15 [0]).1).block wkG15 [0]).2 = (7, 2, 0) := by decide +kernel
theorem ints_one {W : World} {b : Nat} {k : Int} (h : W.heap[b]? = some (.cells #[.int .i64 k] 3 (0, 0))) : Ints W (.slice (some ⟨b, 0, none⟩) 1 1) [k] :=
  ints_block (o := 0) h (fun j n hj => by
    match j, hj with
    | 0, hj => have e : k = n := by simpa using hj
               rw [← e]; rfl
    | q + 1, hj => simp at hj) (by unfold maxLen; simp) rfl
section
set_option maxHeartbeats 4000000
set_option maxRecDepth 20000 in
theorem works15_any (w : World) : Calls Tryz.prog 11 #[] w fun e w' => e = .returned (.bool true) ∧ Below w.heap.size w w' := by
  have hg : wkG15.ok := by decide
  have hl := fun W : World => laid_any W hg
  have h0 := fresh_held (node := 0) (epoch := 0) hg
  have h1 := h0.inode hg (by omega) (ks := [0]) (by intro k hk; rw [List.mem_singleton] at hk; subst hk; decide)
  have e1 := wk_inode
  have e2 := wk_block
  obtain ⟨S, hS⟩ : ∃ S, freshSide wkG15 0 0 = S := ⟨_, rfl⟩
  rw [hS] at hl h0 h1 e1 e2
  have hks : ∀ k ∈ [(0 : Int)], 0 ≤ k ∧ k < wkG15.groups := by intro k hk; rw [List.mem_singleton] at hk; subst hk; decide
  have hi := fun (W : World) (base B Bd : Nat) (D : Nat → Prop) (v : Value) (h : SideAt W base B Bd S D) (hD : ∀ j, D j → j < W.heap.size) (hv : Ints W v [0]) => ainode_any h hD h0.ok (by have := h0.last; omega) hg v [0] hv hks
  obtain ⟨S1, hS1⟩ : ∃ S1, (S.inode wkG15 [0]).1 = S1 := ⟨_, rfl⟩
  have he1 : S.inode wkG15 [0] = (S1, 2, 1, 0) := Prod.ext hS1 e1
  rw [hS1] at e2
  have hk1 : S1.Ok ∧ S1.deps.last ≤ 1 := by
    rcases h1 with ⟨k, hk, p, hp, hx, S', c, he, hh⟩ | ⟨he, _⟩
    · rw [he1] at he
      have hS' : S1 = S' := congrArg Prod.fst he
      rw [hS']
      exact ⟨hh.ok, hh.last⟩
    · rw [he1] at he
      have := congrArg (fun x => x.2.1) he
      exact absurd (show (2 : Int) = 0 from this) (by decide)
  rw [he1] at hi
  have hb := fun (W : World) (base B Bd : Nat) (D : Nat → Prop) (v : Value) (h : SideAt W base B Bd S1 D) (hD : ∀ j, D j → j < W.heap.size) (hv : Ints W v [0]) => ablock_any h hD hk1.1 (by have := hk1.2; omega) hg v [0] hv hks
  obtain ⟨S2, hS2⟩ : ∃ S2, (S1.block wkG15 [0]).1 = S2 := ⟨_, rfl⟩
  have he2 : S1.block wkG15 [0] = (S2, 7, 2, 0) := Prod.ext hS2 e2
  rw [he2] at hb
  unfold GotPost at hi hb
  have hqd := eql_disk_nil
  have hqs := eql_soft_nil
  unfold gV wkG15 at hl hi hb
  unfold pt at *
  dsimp only at hl hi hb
  have HL := Lib.hid hl
  have HI := Lib.hid hi
  have HB := Lib.hid hb
  clear hl hi hb
  clear hg h0 h1 e1 e2 hS hS1 hS2 he1 he2 hk1 hks
  obtain ⟨W0, hW0⟩ : ∃ W, w.alloc (.cells #[.int .i64 1, .int .i64 2, .int .i64 3] 23) = W := ⟨_, rfl⟩
  have HB0 : Hid (Below w.heap.size w W0) := by rw [← hW0]; exact bl2 _
  have HG0 : Hid (W0.heap[w.heap.size]? = some (.cells #[.int .i64 1, .int .i64 2, .int .i64 3] 23 (0, 0))) := by rw [← hW0]; exact heapNew w _
  have HZ0 : Hid (w.heap.size < W0.heap.size) := by rw [← hW0]; show _ < _; simp
  have z0 := cellOf (k := 0) HG0.out rfl
  have z1 := cellOf (k := 1) HG0.out rfl
  have z2 := cellOf (k := 2) HG0.out rfl
  go_enter Tryz.func11, Tryz.ntmps11
  go_wp2_with fail
  clear z0 z1 z2 hW0
  refine (HL.out _).mono ?_
  rintro e w1 ⟨base, B, Bd, D, rfl, hs1, hb1, hD1⟩
  obtain ⟨W2, hW2⟩ : ∃ W, w1.alloc (.cells #[.int .i64 0] 3) = W := ⟨_, rfl⟩
  have hb2 : Below w1.heap.size w1 W2 := by rw [← hW2]; exact bl2 _
  have HB2 := Lib.hid (blN (blN HB0.out hb1) hb2)
  have HG2 := Lib.hid (heapOld hb2 (heapOld hb1 HG0.out))
  have HG1 := Lib.hid (heapOld hb1 HG0.out)
  have hr2 : Ints W2 (.slice (some ⟨w1.heap.size, 0, none⟩) 1 1) [0] := ints_one (by rw [← hW2]; exact heapNew w1 _)
  have hi2 := HI.out W2 base B Bd D _ (hs1.below hb2) (fun j hj => Nat.lt_of_lt_of_le (hD1 j hj).2 hb2.size) hr2
  have HND : Hid (¬ D w.heap.size) := fun hd => by have := (hD1 _ hd).1; have := HZ0.out; omega
  have HSZ : Hid (w.heap.size < W2.heap.size) := by have := HZ0.out; have := hb1.size; have := hb2.size; show _ < _; omega
  have HDL : Hid (∀ j, D j → j < W2.heap.size) := fun j hj => Nat.lt_of_lt_of_le (hD1 j hj).2 hb2.size
  have HLow : Hid (∀ j, D j → w.heap.size ≤ j) := fun j hj => by have := (hD1 j hj).1; have := HZ0.out; omega
  have HI2 := Lib.hid hi2
  clear hi2
  clear hs1 hb1 hD1 hb2 hr2
  have z0 := cellOf (k := 0) HG1.out rfl
  have z1 := cellOf (k := 1) HG1.out rfl
  have z2 := cellOf (k := 2) HG1.out rfl
  go_wp2_with fail
  clear z0 z1 z2
  refine HI2.out.mono ?_
  rintro e w3 ⟨rfl, hs3⟩
  obtain ⟨W4, hW4⟩ : ∃ W, w3.alloc (.cells #[.int .i64 0] 3) = W := ⟨_, rfl⟩
  have hb4 : Below w3.heap.size w3 W4 := by rw [← hW4]; exact bl2 _
  have hg3 := hs3.heap HG2.out HND.out
  have HG3 := Lib.hid hg3
  have hr4 : Ints W4 (.slice (some ⟨w3.heap.size, 0, none⟩) 1 1) [0] := ints_one (by rw [← hW4]; exact heapNew w3 _)
  have hT3 : w.heap.size ≤ W2.heap.size ∧ W2.heap.size ≤ w3.heap.size := ⟨by have := HSZ.out; omega, by obtain ⟨_, K, _, hT⟩ := hs3; exact hT.size⟩
  have hb3 : Below w.heap.size w w3 := HB2.out.trans (by
    obtain ⟨_, K, hK, hT⟩ := hs3
    exact hT.below (fun j hj => HLow.out j (hK j hj)) hT3.1)
  have hi4 := HB.out W4 base B Bd _ _ (hs3.1.below hb4) (fun j hj => hj.elim (fun h => by have := HDL.out j h; have := hb4.size; omega) (fun h => Nat.lt_of_lt_of_le h.2 hb4.size)) hr4
  have HLow4 : Hid (∀ j, (D j ∨ (W2.heap.size ≤ j ∧ j < w3.heap.size)) → w.heap.size ≤ j) := fun j hj => hj.elim (HLow.out j) (fun h => by omega)
  have HB4 := Lib.hid (blN hb3 hb4)
  have HT4 : Hid (w.heap.size ≤ W4.heap.size) := by have := hb4.size; show _ ≤ _; omega
  have HI4 := Lib.hid hi4
  clear hi4
  clear hs3 hb4 hg3 hr4 hT3 hb3
  have z0 := cellOf (k := 0) HG3.out rfl
  have z1 := cellOf (k := 1) HG3.out rfl
  have z2 := cellOf (k := 2) HG3.out rfl
  go_wp2_with fail
  clear z0 z1 z2
  refine HI4.out.mono ?_
  rintro e w5 ⟨rfl, hs5⟩
  have HF : Hid (Below w.heap.size w w5) := HB4.out.trans (by
    obtain ⟨_, K, hK, hT⟩ := hs5
    exact hT.below (fun j hj => HLow4.out j (hK j hj)) HT4.out)
  clear hs5
  go_wp2
  go_ret
  exact ⟨rfl, HF.out⟩
end
end Go.Proofs.YtgofmnhfajmbfaaGreatDoor
