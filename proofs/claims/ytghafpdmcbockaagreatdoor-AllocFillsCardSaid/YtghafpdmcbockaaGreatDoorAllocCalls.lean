/-
  Walks of layer 15: Inode, Block, give, FreeInode, FreeBlock.
-/
import Derived.Test.YtghafpdmcbockaaGreatDoorAllocTake
namespace Go.Proofs.YtghafpdmcbockaaGreatDoor
open Go Go.RowKit Txt Sp

theorem takeL_bd {S : Sp.Side} {g : Sp.Geom} {b : Bool} : ∀ ks : List Int, (∀ k ∈ ks, 0 ≤ k ∧ k < g.groups) → (S.takeL g b ks).2.code = 0 →
    (0 ≤ (S.takeL g b ks).2.group ∧ (S.takeL g b ks).2.group < g.groups) ∧ (0 ≤ (S.takeL g b ks).2.place ∧ (S.takeL g b ks).2.place < manyG g b)
  | [], _, h => absurd (show (109 : Int) = 0 from h) (by decide)
  | k :: r, hk, h => by
    unfold Side.takeL at h ⊢
    cases hl : S.look g k b with
    | none =>
      rw [hl] at h
      exact absurd (show (180 : Int) = 0 from h) (by decide)
    | some s =>
      rw [hl] at h
      dsimp only at h ⊢
      cases hf : freeP s (manyG g b).toNat with
      | none =>
        rw [hf] at h
        exact takeL_bd r (fun q hq => hk q (List.mem_cons_of_mem _ hq)) h
      | some p =>
        have hp := (freeP_some hf).1
        exact ⟨hk k (List.mem_cons_self ..), by show (0 : Int) ≤ p; omega, by show (p : Int) < _; omega⟩
theorem SideTo.heap {w w' : World} {base B Bd : Nat} {S' : Sp.Side} {D : Nat → Prop} (h : SideTo w base B Bd S' D w') {k : Nat} {o : Obj} (ho : w.heap[k]? = some o) (hk : ¬ D k) : w'.heap[k]? = some o := by
  obtain ⟨_, K, hK, hT⟩ := h
  exact hT.heap ho (fun h => hk (hK k h))
theorem ret_3' {a b c a' b' c' : Int} (h : (a, b, c) = (a', b', c')) : Ending.returned (.tuple #[.int .i64 a, .int .i64 b, .int .i64 c]) = .returned (.tuple #[.int .i64 a', .int .i64 b', .int .i64 c']) := by cases h; rfl
/-- What Inode and Block leave. -/
def GotPost (w : World) (base B Bd : Nat) (D : Nat → Prop) (T : Sp.Side × Int × Int × Int) (e : Ending) (w' : World) : Prop :=
  e = .returned (.tuple #[.int .i64 T.2.1, .int .i64 T.2.2.1, .int .i64 T.2.2.2]) ∧ SideTo w base B Bd T.1 D w'
/-- What the freeing calls leave. -/
def GavePost (w : World) (base B Bd : Nat) (D : Nat → Prop) (T : Sp.Side × Int × Int) (e : Ending) (w' : World) : Prop :=
  e = .returned (.tuple #[.int .i64 T.2.1, .int .i64 T.2.2]) ∧ SideTo w base B Bd T.1 D w'
section
set_option maxHeartbeats 4000000
set_option maxRecDepth 20000 in
theorem ainode_any {w : World} {base B Bd : Nat} {S : Sp.Side} {D : Nat → Prop} (h : SideAt w base B Bd S D) (hD : ∀ j, D j → j < w.heap.size) (hS : S.Ok) (hlast : S.deps.last < 1000000000) {g : Sp.Geom} (hg : g.ok) (v : Value) (ks : List Int) (hv : Ints w v ks) (hks : ∀ k ∈ ks, 0 ≤ k ∧ k < g.groups) :
    Calls Tryz.prog 13 #[pt B, gV g, v] w (GotPost w base B Bd D (S.inode g ks)) := by
  have ht := fun (W : World) (hW : Below w.heap.size w W) => atake_any (h.below hW) hS hlast hg false v ks (hv.below hW) hks
  have hbd := takeL_bd (S := S) (b := false) ks hks
  have htk : S.take g false ks = S.takeL g false ks := if_pos (wrongC_zero hg hks)
  have hP : ∀ w', SideTo w base B Bd (S.takeL g false ks).1 D w' → ∀ a b c, (a, b, c) = (if (S.takeL g false ks).2.code = 0 then (inodeNo g (S.takeL g false ks).2.group (S.takeL g false ks).2.place, (S.takeL g false ks).2.change, 0) else (0, 0, (S.takeL g false ks).2.code) : Int × Int × Int) →
      GotPost w base B Bd D (S.inode g ks) (.returned (.tuple #[.int .i64 a, .int .i64 b, .int .i64 c])) w' := fun w' hs a b c he => by
    unfold Side.inode
    rw [htk]
    by_cases h0 : (S.takeL g false ks).2.code = 0
    · rw [if_pos h0] at he ⊢
      exact ⟨ret_3' he, hs⟩
    · rw [if_neg h0] at he ⊢
      exact ⟨ret_3' he, hs⟩
  unfold TakePost at ht
  obtain ⟨R, hR⟩ : ∃ R, S.takeL g false ks = R := ⟨_, rfl⟩
  rw [hR] at ht hbd hP
  clear hR
  obtain ⟨S', tg, tp, tc, te⟩ := R
  dsimp only at ht hbd hP
  obtain ⟨Q, hQ⟩ : ∃ Q, GotPost w base B Bd D (S.inode g ks) = Q := ⟨_, rfl⟩
  rw [hQ] at hP ⊢
  have hgb : 1 ≤ g.groups ∧ g.groups ≤ 4 ∧ 1 ≤ g.inodes ∧ g.inodes ≤ 32 := ⟨hg.1, hg.2.1, hg.2.2.1, hg.2.2.2.1⟩
  obtain ⟨ga, gb, gc⟩ := g
  unfold inodeNo manyG at *
  try simp only at hbd hP hgb
  unfold gV at ht ⊢
  unfold pt at ht ⊢
  obtain ⟨W0, hW0⟩ : ∃ W, w.alloc (.cells #[.int .i64 ga, .int .i64 gb, .int .i64 gc] 23) = W := ⟨_, rfl⟩
  have hk := g_keep hW0
  have HB0 := Lib.hid hk.1
  have HK := Lib.hid hk.2
  clear hk
  have HG0 : Hid (W0.heap[w.heap.size]? = some (.cells #[.int .i64 ga, .int .i64 gb, .int .i64 gc] 23 (0, 0))) := by rw [← hW0]; exact heapNew w _
  have ht0 := ht W0 HB0.out
  have HND : Hid (¬ D w.heap.size) := fun hd => by have := hD _ hd; omega
  have HT0 := Lib.hid ht0
  have HBD := Lib.hid hbd
  have HP := Lib.hid hP
  clear ht0 hbd hP
  clear ht h hD hS hlast hg hv hks htk hQ
  obtain ⟨z0, z1, z2⟩ := HK.out W0 (Below.refl _ _)
  go_enter Tryz.func13, Tryz.ntmps13
  go_wp2_with fail
  clear z0 z1 z2 hW0
  refine HT0.out.mono ?_
  rintro e w2 ⟨rfl, hs2⟩
  have hg2 := hs2.heap HG0.out HND.out
  have HS2 := Lib.hid (hs2.ahead HB0.out)
  clear hs2
  have z1 := cellOf (k := 1) hg2 rfl
  by_cases h0 : te = 0
  · obtain ⟨⟨a0, a1⟩, b0, b1⟩ := HBD.out h0
    subst h0
    have b1 : tp < gb := by simpa using b1
    have m0 : 0 ≤ tg * gb := Int.mul_nonneg a0 (by omega)
    have m1 : tg * gb ≤ 4 * 32 := Int.mul_le_mul (by omega) (by omega) (by omega) (by omega)
    have e1 : IntKind.i64.wrap (tg * gb) = tg * gb := IntWalk.i64_in _ (by omega)
    have e2 : IntKind.i64.wrap (tg * gb + tp) = tg * gb + tp := IntWalk.i64_in _ (by omega)
    have e3 : IntKind.i64.wrap (tg * gb + tp + 1) = tg * gb + tp + 1 := IntWalk.i64_in _ (by omega)
    have HE := Lib.hid (HP.out w2 HS2.out _ _ _ (if_pos rfl).symm)
    clear hg2 a0 a1 b0 b1 m0 m1 hgb
    go_wp2
    first | exact HE.out | (refine bodyPost_ret (v := .tuple #[.int .i64 (tg * gb + tp + 1), .int .i64 tc, .int .i64 0]) (by simp [results, Tryz.results13, go_sem]) rfl ?_; exact HE.out)
  · have q1 : (te != 0) = true := by simp [h0]
    have q2 : (te == 0) = false := beq_eq_false_iff_ne.2 h0
    have HE := Lib.hid (HP.out w2 HS2.out _ _ _ (if_neg h0).symm)
    clear hg2 h0 hgb
    go_wp2
    first | exact HE.out | (refine bodyPost_ret (v := .tuple #[.int .i64 0, .int .i64 0, .int .i64 te]) (by simp [results, Tryz.results13, go_sem]) rfl ?_; exact HE.out)
set_option maxRecDepth 20000 in
theorem ablock_any {w : World} {base B Bd : Nat} {S : Sp.Side} {D : Nat → Prop} (h : SideAt w base B Bd S D) (hD : ∀ j, D j → j < w.heap.size) (hS : S.Ok) (hlast : S.deps.last < 1000000000) {g : Sp.Geom} (hg : g.ok) (v : Value) (ks : List Int) (hv : Ints w v ks) (hks : ∀ k ∈ ks, 0 ≤ k ∧ k < g.groups) :
    Calls Tryz.prog 11 #[pt B, gV g, v] w (GotPost w base B Bd D (S.block g ks)) := by
  have ht := fun (W : World) (hW : Below w.heap.size w W) => atake_any (h.below hW) hS hlast hg true v ks (hv.below hW) hks
  have hbd := takeL_bd (S := S) (b := true) ks hks
  have htk : S.take g true ks = S.takeL g true ks := if_pos (wrongC_zero hg hks)
  have hP : ∀ w', SideTo w base B Bd (S.takeL g true ks).1 D w' → ∀ a b c, (a, b, c) = (if (S.takeL g true ks).2.code = 0 then (blockNo g (S.takeL g true ks).2.group (S.takeL g true ks).2.place, (S.takeL g true ks).2.change, 0) else (0, 0, (S.takeL g true ks).2.code) : Int × Int × Int) →
      GotPost w base B Bd D (S.block g ks) (.returned (.tuple #[.int .i64 a, .int .i64 b, .int .i64 c])) w' := fun w' hs a b c he => by
    unfold Side.block
    rw [htk]
    by_cases h0 : (S.takeL g true ks).2.code = 0
    · rw [if_pos h0] at he ⊢
      exact ⟨ret_3' he, hs⟩
    · rw [if_neg h0] at he ⊢
      exact ⟨ret_3' he, hs⟩
  unfold TakePost at ht
  obtain ⟨R, hR⟩ : ∃ R, S.takeL g true ks = R := ⟨_, rfl⟩
  rw [hR] at ht hbd hP
  clear hR
  obtain ⟨S', tg, tp, tc, te⟩ := R
  dsimp only at ht hbd hP
  obtain ⟨Q, hQ⟩ : ∃ Q, GotPost w base B Bd D (S.block g ks) = Q := ⟨_, rfl⟩
  rw [hQ] at hP ⊢
  have hgk := fun (W : World) (h0 : te = 0) => gblock_any W g tg tp
  have hin := fun h0 : te = 0 => blkAt_in hg (hbd h0).1 (hbd h0).2
  obtain ⟨N, hN⟩ : ∃ N, blockNo g tg tp = N := ⟨_, rfl⟩
  rw [hN] at hP hin
  obtain ⟨ga, gb, gc⟩ := g
  try simp only at hP
  unfold gV at ht hgk ⊢
  unfold pt at ht ⊢
  obtain ⟨W0, hW0⟩ : ∃ W, w.alloc (.cells #[.int .i64 ga, .int .i64 gb, .int .i64 gc] 23) = W := ⟨_, rfl⟩
  have hk := g_keep hW0
  have HB0 := Lib.hid hk.1
  have HK := Lib.hid hk.2
  clear hk
  have HG0 : Hid (W0.heap[w.heap.size]? = some (.cells #[.int .i64 ga, .int .i64 gb, .int .i64 gc] 23 (0, 0))) := by rw [← hW0]; exact heapNew w _
  have ht0 := ht W0 HB0.out
  have HND : Hid (¬ D w.heap.size) := fun hd => by have := hD _ hd; omega
  have HT0 := Lib.hid ht0
  have HP := Lib.hid hP
  have HGK := Lib.hid hgk
  have HIN := Lib.hid hin
  clear ht0 hP hgk hin
  clear ht h hD hS hlast hg hv hks htk hQ hbd hN
  obtain ⟨z0, z1, z2⟩ := HK.out W0 (Below.refl _ _)
  go_enter Tryz.func11, Tryz.ntmps11
  go_wp2_with fail
  clear z0 z1 z2 hW0
  refine HT0.out.mono ?_
  rintro e w2 ⟨rfl, hs2⟩
  have hg2 := hs2.heap HG0.out HND.out
  have HS2 := Lib.hid (hs2.ahead HB0.out)
  clear hs2
  have z0 := cellOf (k := 0) hg2 rfl
  have z1 := cellOf (k := 1) hg2 rfl
  have z2 := cellOf (k := 2) hg2 rfl
  by_cases h0 : te = 0
  · have hk := fun W => HGK.out W h0
    rw [HIN.out h0] at hk
    subst h0
    have HE := Lib.hid (fun w' hb => HP.out w' (HS2.out.behind hb) _ _ _ (if_pos rfl).symm)
    have HK := Lib.hid hk
    clear hk
    clear hg2
    go_wp2_with fail
    clear z0 z1 z2
    refine (HK.out _).mono ?_
    rintro e w3 ⟨rfl, hb3⟩
    have HB3 := Lib.hid hb3
    clear hb3
    go_wp2
    first | exact HE.out _ HB3.out | (refine bodyPost_ret (v := .tuple #[.int .i64 N, .int .i64 tc, .int .i64 0]) (by simp [results, Tryz.results11, go_sem]) rfl ?_; exact HE.out _ HB3.out)
  · have q1 : (te != 0) = true := by simp [h0]
    have q2 : (te == 0) = false := beq_eq_false_iff_ne.2 h0
    have HE := Lib.hid (HP.out w2 HS2.out _ _ _ (if_neg h0).symm)
    clear hg2 h0
    go_wp2
    first | exact HE.out | (refine bodyPost_ret (v := .tuple #[.int .i64 0, .int .i64 0, .int .i64 te]) (by simp [results, Tryz.results11, go_sem]) rfl ?_; exact HE.out)
set_option maxRecDepth 20000 in
theorem agive_any {w : World} {base B Bd : Nat} {S : Sp.Side} {D : Nat → Prop} (h : SideAt w base B Bd S D) (hS : S.Ok) (hlast : S.deps.last < 1000000000) {g : Sp.Geom} (hg : g.ok) (b : Bool) {k p : Int} (hk : 0 ≤ k ∧ k < g.groups) (hp : 0 ≤ p ∧ p < manyG g b) (v : Value) (ahead : List Int) (hv : Ints w v ahead) (hal : ahead.length ≤ 100000) :
    Calls Tryz.prog 40 #[pt B, gV g, .bool b, .int .i64 k, .int .i64 p, v] w (GavePost w base B Bd D (S.give g b k p ahead)) := by
  have hlook := fun (W : World) (hW : Below w.heap.size w W) => alook_any (h.below hW) hS hg hk b
  have hmp : manyC (manyG g b) p = 0 := by
    have := manyG_ok hg b
    unfold manyC
    rw [if_neg (by omega)]
  have hset := fun (W : World) (hW : Below w.heap.size w W) (t : ByteArray) => aset_any (h.below hW) hS hlast (mapAtG g k b) t (manyG g b) p false hmp v ahead (hv.below hW) hal
  simp only [Bool.false_eq_true, if_false] at hset
  have hno : ∀ w', S.look g k b = none → Below w.heap.size w w' → GavePost w base B Bd D (S.give g b k p ahead) (.returned (.tuple #[.int .i64 0, .int .i64 180])) w' := fun w' hl hb => by
    unfold Side.give
    rw [hl]
    exact ⟨rfl, SideTo.none h hb⟩
  have hfree : ∀ t w', S.look g k b = some t → ¬ t.data.toList.getD p.toNat 0 = 1 → Below w.heap.size w w' → GavePost w base B Bd D (S.give g b k p ahead) (.returned (.tuple #[.int .i64 0, .int .i64 120])) w' := fun t w' hl hb1 hb => by
    unfold Side.give
    rw [hl]
    dsimp only
    rw [if_neg (fun h => hb1 h.2.2)]
    exact ⟨rfl, SideTo.none h hb⟩
  have hyes : ∀ t W w', S.look g k b = some t → t.data.toList.getD p.toNat 0 = 1 → Below w.heap.size w W → SideTo W base B Bd (S.change (mapAtG g k b) p zeroB ahead) D w' →
      GavePost w base B Bd D (S.give g b k p ahead) (.returned (.tuple #[.int .i64 (S.changeN (mapAtG g k b) p zeroB ahead), .int .i64 (S.changeC (mapAtG g k b) p zeroB ahead)])) w' := fun t W w' hl hb1 hb hs => by
    unfold Side.give
    rw [hl]
    dsimp only
    rw [if_pos ⟨hp.1, hp.2, hb1⟩]
    exact ⟨rfl, hs.ahead hb⟩
  have htk := fun (W : World) (t : ByteArray) (ht : S.look g k b = some t) => mtaken_any W t (manyG g b) p (look_some ht).2.2 hp
  obtain ⟨Q, hQ⟩ : ∃ Q, GavePost w base B Bd D (S.give g b k p ahead) = Q := ⟨_, rfl⟩
  rw [hQ] at hno hfree hyes ⊢
  unfold LookPost chartV at hlook
  obtain ⟨n, hn⟩ : ∃ n, manyG g b = n := ⟨_, rfl⟩
  obtain ⟨a, ha⟩ : ∃ a, mapAtG g k b = a := ⟨_, rfl⟩
  rw [hn, ha] at hlook hset
  rw [hn] at htk
  rw [ha] at hyes
  obtain ⟨Y, hY⟩ : ∃ Y, S.changeN a p zeroB ahead = Y := ⟨_, rfl⟩
  obtain ⟨Z, hZ⟩ : ∃ Y, S.changeC a p zeroB ahead = Y := ⟨_, rfl⟩
  rw [hY, hZ] at hset hyes
  obtain ⟨L, hL⟩ : ∃ L, S.look g k b = L := ⟨_, rfl⟩
  rw [hL] at hlook hno hfree hyes htk
  obtain ⟨ga, gb, gc⟩ := g
  unfold gV at hlook ⊢
  unfold pt at hlook hset ⊢
  obtain ⟨W0, hW0⟩ : ∃ W, w.alloc (.cells #[.int .i64 ga, .int .i64 gb, .int .i64 gc] 23) = W := ⟨_, rfl⟩
  have hk := g_keep hW0
  have HB0 := Lib.hid hk.1
  have HK := Lib.hid hk.2
  clear hk
  have hl0 := hlook W0 HB0.out
  clear h hS hlast hg hk hp hv hal hmp hQ hn ha hL hY hZ hlook
  cases L with
  | none =>
    dsimp only at hl0
    have HNO := Lib.hid (fun w' => hno w' rfl)
    have HL0 := Lib.hid hl0
    clear hl0
    clear hno hfree hyes htk hset
    obtain ⟨z0, z1, z2⟩ := HK.out W0 (Below.refl _ _)
    go_enter Tryz.func40, Tryz.ntmps40
    go_wp2_with fail
    clear z0 z1 z2 hW0
    refine HL0.out.mono ?_
    rintro e w2 ⟨rfl, hb2⟩
    have HB2 := Lib.hid (blN HB0.out hb2)
    clear hb2
    go_wp2
    first | exact HNO.out _ (bl1 HB2.out _) | (go_ret2; exact HNO.out _ (bl1 HB2.out _))
  | some t =>
    dsimp only at hl0
    have htk2 := fun W => htk W t rfl
    obtain ⟨x, hx⟩ : ∃ x, t.data.toList.getD p.toNat 0 = x := ⟨_, rfl⟩
    rw [hx] at htk2
    have hset2 := fun W hW => hset W hW t
    have hfr := fun w' => hfree t w' rfl
    have hye := fun W w' => hyes t W w' rfl
    rw [hx] at hfr hye
    have HL0 := Lib.hid hl0
    have HTK2 := Lib.hid htk2
    have HSET2 := Lib.hid hset2
    have HFR := Lib.hid hfr
    have HYE := Lib.hid hye
    clear hl0 htk2 hset2 hfr hye
    clear hno hfree hyes htk hset hx
    obtain ⟨z0, z1, z2⟩ := HK.out W0 (Below.refl _ _)
    go_enter Tryz.func40, Tryz.ntmps40
    go_wp2_with fail
    clear z0 z1 z2 hW0
    refine HL0.out.mono ?_
    rintro e w2 ⟨rfl, hb2⟩
    have HB2 := Lib.hid (blN HB0.out hb2)
    clear hb2
    obtain ⟨W3, hW3⟩ : ∃ W, w2.alloc (.cells #[.pointer (some ⟨B, 0, none⟩), .int .i64 a, .string t, .int .i64 n] 81) = W := ⟨_, rfl⟩
    have HB3 : Hid (Below w.heap.size w W3) := by rw [← hW3]; exact bl1 HB2.out _
    have HC3 : Hid (W3.heap[w2.heap.size]? = some (.cells #[.pointer (some ⟨B, 0, none⟩), .int .i64 a, .string t, .int .i64 n] 81 (0, 0))) := by rw [← hW3]; exact heapNew w2 _
    have y2 := cellOf (k := 2) HC3.out rfl
    have y3 := cellOf (k := 3) HC3.out rfl
    go_wp2_with fail
    clear y2 y3 hW3
    refine (HTK2.out _).mono ?_
    rintro e w4 ⟨rfl, hb4⟩
    have HB4 := Lib.hid (blN HB3.out hb4)
    have HC4 := Lib.hid (heapOld hb4 HC3.out)
    clear hb4
    by_cases h1 : x = 1
    · have q1 : (x == 1) = true := beq_iff_eq.2 h1
      have HE := Lib.hid (fun W w' hb hs => HYE.out W w' h1 hb hs)
      have y0 := cellOf (k := 0) HC4.out rfl
      have y1 := cellOf (k := 1) HC4.out rfl
      have y2 := cellOf (k := 2) HC4.out rfl
      have y3 := cellOf (k := 3) HC4.out rfl
      clear h1
      rw [q1]
      go_wp2_with fail
      clear y0 y1 y2 y3
      refine (HSET2.out _ HB4.out).mono ?_
      rintro e w5 ⟨rfl, hs5⟩
      have HF5 := Lib.hid (HE.out _ _ HB4.out hs5)
      clear hs5
      go_wp2
      first | exact HF5.out | (go_ret2; exact HF5.out)
    · have q1 : (x == 1) = false := beq_eq_false_iff_ne.2 h1
      have HE := Lib.hid (fun w' hb => HFR.out w' h1 hb)
      clear h1
      rw [q1]
      go_wp2
      first | exact HE.out _ HB4.out | (go_ret2; exact HE.out _ HB4.out)
end
end Go.Proofs.YtghafpdmcbockaaGreatDoor
