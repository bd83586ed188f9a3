/-
  Walks of layer 15: FreeInode, FreeBlock.
-/
import Derived.Test.YtghafpdmcbockaaGreatDoorAllocCalls
namespace Go.Proofs.YtghafpdmcbockaaGreatDoor
open Go Go.RowKit Txt Sp

theorem inodeAt_C {g : Sp.Geom} (hg : g.ok) (n : Int) : (inodeAt g n).2.2.2 = inodeC g n ∧ (inodeC g n = 0 → (inodeAt g n).2.1 = (n - 1) / g.inodes ∧ (inodeAt g n).2.2.1 = (n - 1) % g.inodes ∧ (0 ≤ (n - 1) / g.inodes ∧ (n - 1) / g.inodes < g.groups) ∧ (0 ≤ (n - 1) % g.inodes ∧ (n - 1) % g.inodes < g.inodes)) := by
  have hm := Geom.many_ok hg
  by_cases h : n < 1 ∨ g.groups * g.inodes < n
  · have hc : inodeC g n = 1 := by unfold inodeC; rw [if_pos hg, if_pos h]
    refine ⟨?_, fun h0 => by omega⟩
    rw [hc]
    unfold inodeAt Geom.within
    rw [if_pos hg, hm]
    by_cases h1 : n < 0 ∨ g.groups * g.inodes + 1 ≤ n
    · rw [if_pos h1, if_neg (by decide)]
    · rw [if_neg h1, if_pos rfl, if_pos (by omega)]
  · have h2 := inodeC_no hg (n := n) (by omega) (by omega)
    refine ⟨?_, fun _ => ⟨?_, ?_, h2.2.1, h2.2.2.1⟩⟩
    all_goals
      try rw [h2.1]
      unfold inodeAt Geom.within
      rw [if_pos hg, hm, if_neg (show ¬ (n < 0 ∨ g.groups * g.inodes + 1 ≤ n) by omega), if_pos rfl, if_neg (show ¬ n = 0 by omega)]
theorem blockC_bd {g : Sp.Geom} {s : Int} (h : blockC g s = 0) : (0 ≤ (g.kind s).2 / g.blocks ∧ (g.kind s).2 / g.blocks < g.groups) ∧ (0 ≤ (g.kind s).2 % g.blocks ∧ (g.kind s).2 % g.blocks < g.blocks) := by
  unfold blockC at h
  split at h
  · rename_i hg
    split at h
    · exact absurd h (by decide)
    · rename_i hr
      split at h
      · rename_i h6
        have hnf : ¬ s < g.first 0 := fun hf => by
          unfold Geom.kind at h6
          rw [if_pos hf] at h6
          split at h6
          · simp only at h6
            omega
          · exact absurd (show (2 : Int) = 6 from h6) (by decide)
        obtain ⟨d0, d1, d2, d3⟩ := group_bd hg hnf (by omega)
        have hb := hg.2.2.2.2
        have hl : g.long = 2 + g.inodes + g.blocks := rfl
        unfold Geom.kind at h6 ⊢
        rw [if_neg hnf] at h6 ⊢
        by_cases h7 : 2 + g.inodes ≤ (s - g.first 0) % g.long
        · rw [if_pos h7]
          dsimp only
          obtain ⟨q, hq⟩ : ∃ q, (s - g.first 0) / g.long = q := ⟨_, rfl⟩
          obtain ⟨r, hr⟩ : ∃ q, (s - g.first 0) % g.long = q := ⟨_, rfl⟩
          rw [hq] at d0 d1 ⊢
          rw [hr] at d2 d3 h7 ⊢
          rw [show q * g.blocks + r - 2 - g.inodes = (r - 2 - g.inodes) + q * g.blocks by omega, Int.add_mul_ediv_right _ _ (by omega), Int.add_mul_emod_self_right, Int.ediv_eq_zero_of_lt (by omega) (by omega), Int.emod_eq_of_lt (by omega) (by omega)]
          omega
        · rw [if_neg h7] at h6
          split at h6
          · exact absurd (show (5 : Int) = 6 from h6) (by decide)
          · simp only at h6
            omega
      · exact absurd h (by decide)
  · exact absurd h (by decide)
theorem GavePost.ahead {w w1 w' : World} {base B Bd : Nat} {D : Nat → Prop} {T : Sp.Side × Int × Int} {e : Ending} (hb : Below w.heap.size w w1) (h : GavePost w1 base B Bd D T e w') : GavePost w base B Bd D T e w' := ⟨h.1, h.2.ahead hb⟩
section
set_option maxHeartbeats 4000000
set_option maxRecDepth 20000 in
theorem afreeInode_any {w : World} {base B Bd : Nat} {S : Sp.Side} {D : Nat → Prop} (h : SideAt w base B Bd S D) (hS : S.Ok) (hlast : S.deps.last < 1000000000) {g : Sp.Geom} (hg : g.ok) (n : Int) (v : Value) (ahead : List Int) (hv : Ints w v ahead) (hal : ahead.length ≤ 100000) :
    Calls Tryz.prog 16 #[pt B, gV g, .int .i64 n, v] w (GavePost w base B Bd D (S.freeInode g n ahead)) := by
  have hw := fun (W : World) => awrong_any W B g hg (.slice none 0 0) [] (RowAt.void _ 1) (by simp)
  have hi := fun W : World => ginode_any W g n
  obtain ⟨i1, i2⟩ := inodeAt_C hg n
  have hno : ∀ w', inodeC g n ≠ 0 → Below w.heap.size w w' → GavePost w base B Bd D (S.freeInode g n ahead) (.returned (.tuple #[.int .i64 0, .int .i64 (inodeC g n)])) w' := fun w' hc hb => by
    unfold Side.freeInode
    rw [if_neg hc]
    exact ⟨rfl, SideTo.none h hb⟩
  have hgv := fun (W : World) (hW : Below w.heap.size w W) (hc : inodeC g n = 0) => agive_any (h.below hW) hS hlast hg false (i2 hc).2.2.1 (i2 hc).2.2.2 v ahead (hv.below hW) hal
  have hyes : ∀ W e w', inodeC g n = 0 → Below w.heap.size w W → GavePost W base B Bd D (S.give g false ((n - 1) / g.inodes) ((n - 1) % g.inodes) ahead) e w' → GavePost w base B Bd D (S.freeInode g n ahead) e w' := fun W e w' hc hb hp => by
    unfold Side.freeInode
    rw [if_pos hc]
    exact hp.ahead hb
  rw [i1] at hi
  obtain ⟨x1, hx1⟩ : ∃ x, (inodeAt g n).1 = x := ⟨_, rfl⟩
  obtain ⟨x2, hx2⟩ : ∃ x, (inodeAt g n).2.1 = x := ⟨_, rfl⟩
  obtain ⟨x3, hx3⟩ : ∃ x, (inodeAt g n).2.2.1 = x := ⟨_, rfl⟩
  rw [hx1, hx2, hx3] at hi
  have i3 := fun hc => (i2 hc).1
  have i4 := fun hc => (i2 hc).2.1
  rw [hx2] at i3
  rw [hx3] at i4
  obtain ⟨c, hc⟩ : ∃ c, inodeC g n = c := ⟨_, rfl⟩
  rw [hc] at hi hno hgv hyes i3 i4
  obtain ⟨Q, hQ⟩ : ∃ Q, GavePost w base B Bd D (S.freeInode g n ahead) = Q := ⟨_, rfl⟩
  rw [hQ] at hno hyes ⊢
  clear hQ hc hx1 hx2 hx3 i1 i2 h hS hlast hg hv hal
  by_cases h0 : c = 0
  · subst h0
    have e3 := i3 rfl
    have e4 := i4 rfl
    rw [← e3, ← e4] at hgv hyes
    obtain ⟨Y, hY⟩ : ∃ Y, S.give g false x2 x3 ahead = Y := ⟨_, rfl⟩
    rw [hY] at hgv hyes
    obtain ⟨S', y1, y2⟩ := Y
    have hgv2 := fun W hW => hgv W hW rfl
    have hye := fun W e w' => hyes W e w' rfl
    clear hno hyes hgv i3 i4 e3 e4 hY
    obtain ⟨ga, gb, gc⟩ := g
    unfold gV at hw hi hgv2 ⊢
    unfold pt at hw hgv2 ⊢
    obtain ⟨W0, hW0⟩ : ∃ W, w.alloc (.cells #[.int .i64 ga, .int .i64 gb, .int .i64 gc] 23) = W := ⟨_, rfl⟩
    have hk := g_keep hW0
    have HB0 := Lib.hid hk.1
    have HK := Lib.hid hk.2
    clear hk
    have HW := Lib.hid hw
    have HI := Lib.hid hi
    have HGV2 := Lib.hid hgv2
    have HYE := Lib.hid hye
    clear hw hi hgv2 hye
    obtain ⟨z0, z1, z2⟩ := HK.out W0 (Below.refl _ _)
    go_enter Tryz.func16, Tryz.ntmps16
    go_wp2_with fail
    clear z0 z1 z2
    refine (HW.out _).mono ?_
    rintro e w1 ⟨rfl, hb1⟩
    have HB1 := Lib.hid hb1
    clear hb1
    obtain ⟨z0, z1, z2⟩ := HK.out w1 HB1.out
    go_wp2_with fail
    clear z0 z1 z2
    refine (HI.out _).mono ?_
    rintro e w2 ⟨rfl, hb2⟩
    have HB2 := Lib.hid (blN HB1.out hb2)
    clear hb2
    obtain ⟨z0, z1, z2⟩ := HK.out w2 HB2.out
    go_wp2_with fail
    clear z0 z1 z2
    refine (HGV2.out _ (blN HB0.out HB2.out)).mono ?_
    intro e w3 hp3
    have HP3 := Lib.hid (HYE.out _ _ _ (blN HB0.out HB2.out) hp3)
    obtain ⟨he, -⟩ := hp3
    subst he
    go_wp2
    first | exact HP3.out | (go_ret2; exact HP3.out)
  · have q1 : (c != 0) = true := by simp [h0]
    have q2 : (c == 0) = false := beq_eq_false_iff_ne.2 h0
    have hn := fun w' => hno w' h0
    clear hno hyes hgv i3 i4 h0
    obtain ⟨ga, gb, gc⟩ := g
    unfold gV at hw hi ⊢
    unfold pt at hw ⊢
    obtain ⟨W0, hW0⟩ : ∃ W, w.alloc (.cells #[.int .i64 ga, .int .i64 gb, .int .i64 gc] 23) = W := ⟨_, rfl⟩
    have hk := g_keep hW0
    have HB0 := Lib.hid hk.1
    have HK := Lib.hid hk.2
    clear hk
    have HW := Lib.hid hw
    have HI := Lib.hid hi
    have HN := Lib.hid hn
    clear hw hi hn
    obtain ⟨z0, z1, z2⟩ := HK.out W0 (Below.refl _ _)
    go_enter Tryz.func16, Tryz.ntmps16
    go_wp2_with fail
    clear z0 z1 z2
    refine (HW.out _).mono ?_
    rintro e w1 ⟨rfl, hb1⟩
    have HB1 := Lib.hid hb1
    clear hb1
    obtain ⟨z0, z1, z2⟩ := HK.out w1 HB1.out
    go_wp2_with fail
    clear z0 z1 z2
    refine (HI.out _).mono ?_
    rintro e w2 ⟨rfl, hb2⟩
    have HB2 := Lib.hid (blN HB1.out hb2)
    clear hb2
    go_wp2
    first | exact HN.out _ (blN HB0.out HB2.out) | (go_ret2; exact HN.out _ (blN HB0.out HB2.out))
set_option maxRecDepth 20000 in
theorem afreeBlock_any {w : World} {base B Bd : Nat} {S : Sp.Side} {D : Nat → Prop} (h : SideAt w base B Bd S D) (hS : S.Ok) (hlast : S.deps.last < 1000000000) {g : Sp.Geom} (hg : g.ok) (n : Int) (v : Value) (ahead : List Int) (hv : Ints w v ahead) (hal : ahead.length ≤ 100000) :
    Calls Tryz.prog 15 #[pt B, gV g, .int .i64 n, v] w (GavePost w base B Bd D (S.freeBlock g n ahead)) := by
  have hw := fun (W : World) => awrong_any W B g hg (.slice none 0 0) [] (RowAt.void _ 1) (by simp)
  have hi := fun W : World => gplace_any W g n
  have i2 : blockC g n = 0 → placeAt g n = ((g.kind n).2 / g.blocks, (g.kind n).2 % g.blocks, 0) := fun hc => by unfold placeAt; rw [if_pos hc]
  have i5 : blockC g n ≠ 0 → placeAt g n = (0, 0, blockC g n) := fun hc => by unfold placeAt; rw [if_neg hc]
  have hno : ∀ w', blockC g n ≠ 0 → Below w.heap.size w w' → GavePost w base B Bd D (S.freeBlock g n ahead) (.returned (.tuple #[.int .i64 0, .int .i64 (blockC g n)])) w' := fun w' hc hb => by
    unfold Side.freeBlock
    rw [if_neg hc]
    exact ⟨rfl, SideTo.none h hb⟩
  have hgv := fun (W : World) (hW : Below w.heap.size w W) (hc : blockC g n = 0) => agive_any (h.below hW) hS hlast hg true (blockC_bd hc).1 (blockC_bd hc).2 v ahead (hv.below hW) hal
  have hyes : ∀ W e w', blockC g n = 0 → Below w.heap.size w W → GavePost W base B Bd D (S.give g true ((g.kind n).2 / g.blocks) ((g.kind n).2 % g.blocks) ahead) e w' → GavePost w base B Bd D (S.freeBlock g n ahead) e w' := fun W e w' hc hb hp => by
    unfold Side.freeBlock
    rw [if_pos hc]
    exact hp.ahead hb
  obtain ⟨x2, hx2⟩ : ∃ x, (g.kind n).2 / g.blocks = x := ⟨_, rfl⟩
  obtain ⟨x3, hx3⟩ : ∃ x, (g.kind n).2 % g.blocks = x := ⟨_, rfl⟩
  rw [hx2, hx3] at hgv hyes i2
  obtain ⟨c, hc⟩ : ∃ c, blockC g n = c := ⟨_, rfl⟩
  rw [hc] at hno hgv hyes i2 i5
  obtain ⟨Q, hQ⟩ : ∃ Q, GavePost w base B Bd D (S.freeBlock g n ahead) = Q := ⟨_, rfl⟩
  rw [hQ] at hno hyes ⊢
  clear hQ hc hx2 hx3 h hS hlast hg hv hal
  by_cases h0 : c = 0
  · subst h0
    rw [i2 rfl] at hi
    obtain ⟨Y, hY⟩ : ∃ Y, S.give g true x2 x3 ahead = Y := ⟨_, rfl⟩
    rw [hY] at hgv hyes
    obtain ⟨S', y1, y2⟩ := Y
    have hgv2 := fun W hW => hgv W hW rfl
    have hye := fun W e w' => hyes W e w' rfl
    clear hno hyes hgv i2 i5 hY
    obtain ⟨ga, gb, gc⟩ := g
    unfold gV at hw hi hgv2 ⊢
    unfold pt at hw hgv2 ⊢
    obtain ⟨W0, hW0⟩ : ∃ W, w.alloc (.cells #[.int .i64 ga, .int .i64 gb, .int .i64 gc] 23) = W := ⟨_, rfl⟩
    have hk := g_keep hW0
    have HB0 := Lib.hid hk.1
    have HK := Lib.hid hk.2
    clear hk
    have HW := Lib.hid hw
    have HI := Lib.hid hi
    have HGV2 := Lib.hid hgv2
    have HYE := Lib.hid hye
    clear hw hi hgv2 hye
    obtain ⟨z0, z1, z2⟩ := HK.out W0 (Below.refl _ _)
    go_enter Tryz.func15, Tryz.ntmps15
    go_wp2_with fail
    clear z0 z1 z2
    refine (HW.out _).mono ?_
    rintro e w1 ⟨rfl, hb1⟩
    have HB1 := Lib.hid hb1
    clear hb1
    obtain ⟨z0, z1, z2⟩ := HK.out w1 HB1.out
    go_wp2_with fail
    clear z0 z1 z2
    refine (HI.out _).mono ?_
    rintro e w2 ⟨rfl, hb2⟩
    have HB2 := Lib.hid (blN HB1.out hb2)
    clear hb2
    obtain ⟨z0, z1, z2⟩ := HK.out w2 HB2.out
    go_wp2_with fail
    clear z0 z1 z2
    refine (HGV2.out _ (blN HB0.out HB2.out)).mono ?_
    intro e w3 hp3
    have HP3 := Lib.hid (HYE.out _ _ _ (blN HB0.out HB2.out) hp3)
    obtain ⟨he, -⟩ := hp3
    subst he
    go_wp2
    first | exact HP3.out | (go_ret2; exact HP3.out)
  · have q1 : (c != 0) = true := by simp [h0]
    have q2 : (c == 0) = false := beq_eq_false_iff_ne.2 h0
    rw [i5 h0] at hi
    have hn := fun w' => hno w' h0
    clear hno hyes hgv i2 i5 h0
    obtain ⟨ga, gb, gc⟩ := g
    unfold gV at hw hi ⊢
    unfold pt at hw ⊢
    obtain ⟨W0, hW0⟩ : ∃ W, w.alloc (.cells #[.int .i64 ga, .int .i64 gb, .int .i64 gc] 23) = W := ⟨_, rfl⟩
    have hk := g_keep hW0
    have HB0 := Lib.hid hk.1
    have HK := Lib.hid hk.2
    clear hk
    have HW := Lib.hid hw
    have HI := Lib.hid hi
    have HN := Lib.hid hn
    clear hw hi hn
    obtain ⟨z0, z1, z2⟩ := HK.out W0 (Below.refl _ _)
    go_enter Tryz.func15, Tryz.ntmps15
    go_wp2_with fail
    clear z0 z1 z2
    refine (HW.out _).mono ?_
    rintro e w1 ⟨rfl, hb1⟩
    have HB1 := Lib.hid hb1
    clear hb1
    obtain ⟨z0, z1, z2⟩ := HK.out w1 HB1.out
    go_wp2_with fail
    clear z0 z1 z2
    refine (HI.out _).mono ?_
    rintro e w2 ⟨rfl, hb2⟩
    have HB2 := Lib.hid (blN HB1.out hb2)
    clear hb2
    go_wp2
    first | exact HN.out _ (blN HB0.out HB2.out) | (go_ret2; exact HN.out _ (blN HB0.out HB2.out))
end
end Go.Proofs.YtghafpdmcbockaaGreatDoor
