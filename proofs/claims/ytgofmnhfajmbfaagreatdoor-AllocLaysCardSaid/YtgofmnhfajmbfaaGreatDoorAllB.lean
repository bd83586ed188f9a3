/-
  AllB: AllocCalls, AllocFree, AllocCount, AllocLay.
-/
import Derived.Test.YtgofmnhfajmbfaaGreatDoorAllA
import Derived.Test.YtgofmnhfajmbfaaGreatDoorAllocA
namespace Go.Proofs.YtgofmnhfajmbfaaGreatDoor
open Go Go.RowKit Txt Sp

theorem takeL_bd {S : Sp.Side} {g : Sp.Geom} {b : Bool} : ∀ ks : List Int, (∀ k ∈ ks, 0 ≤ k ∧ k < g.groups) → (S.takeL g b ks).2.code = 0 →
    (0 ≤ (S.takeL g b ks).2.group ∧ (S.takeL g b ks).2.group < g.groups) ∧ (0 ≤ (S.takeL g b ks).2.place ∧ (S.takeL g b ks).2.place < manyG g b)
  | [], _, h => absurd (show (109 : Int) = 0 from h) (by decide)
  | k :: r, hk, h => by
    unfold Side.takeL at h ⊢
    cases hl : S.look g k b with
    | none =>
      rw [hl] at h
      exact absurd (show (180 : Int) = 0 from h) (by decide)
    | some s =>
      rw [hl] at h
      dsimp only at h ⊢
      cases hf : freeP s (manyG g b).toNat with
      | none =>
        rw [hf] at h
        exact takeL_bd r (fun q hq => hk q (List.mem_cons_of_mem _ hq)) h
      | some p =>
        have hp := (freeP_some hf).1
        exact ⟨hk k (List.mem_cons_self ..), by show (0 : Int) ≤ p; omega, by show (p : Int) < _; omega⟩
theorem SideTo.heap {w w' : World} {base B Bd : Nat} {S' : Sp.Side} {D : Nat → Prop} (h : SideTo w base B Bd S' D w') {k : Nat} {o : Obj} (ho : w.heap[k]? = some o) (hk : ¬ D k) : w'.heap[k]? = some o := by
  obtain ⟨_, K, hK, hT⟩ := h
  exact hT.heap ho (fun h => hk (hK k h))
theorem ret_3' {a b c a' b' c' : Int} (h : (a, b, c) = (a', b', c')) : Ending.returned (.tuple #[.int .i64 a, .int .i64 b, .int .i64 c]) = .returned (.tuple #[.int .i64 a', .int .i64 b', .int .i64 c']) := by cases h; rfl
/-- What Inode and Block leave. -/
def GotPost (w : World) (base B Bd : Nat) (D : Nat → Prop) (T : Sp.Side × Int × Int × Int) (e : Ending) (w' : World) : Prop :=
  e = .returned (.tuple #[.int .i64 T.2.1, .int .i64 T.2.2.1, .int .i64 T.2.2.2]) ∧ SideTo w base B Bd T.1 D w'
/-- What the freeing calls leave. -/
def GavePost (w : World) (base B Bd : Nat) (D : Nat → Prop) (T : Sp.Side × Int × Int) (e : Ending) (w' : World) : Prop :=
  e = .returned (.tuple #[.int .i64 T.2.1, .int .i64 T.2.2]) ∧ SideTo w base B Bd T.1 D w'
section
set_option maxHeartbeats 4000000
set_option maxRecDepth 20000 in
theorem ainode_any {w : World} {base B Bd : Nat} {S : Sp.Side} {D : Nat → Prop} (h : SideAt w base B Bd S D) (hD : ∀ j, D j → j < w.heap.size) (hS : S.Ok) (hlast : S.deps.last < 1000000000) {g : Sp.Geom} (hg : g.ok) (v : Value) (ks : List Int) (hv : Ints w v ks) (hks : ∀ k ∈ ks, 0 ≤ k ∧ k < g.groups) :
    Calls Tryz.prog 57 #[pt B, gV g, v] w (GotPost w base B Bd D (S.inode g ks)) := by
  have ht := fun (W : World) (hW : Below w.heap.size w W) => atake_any (h.below hW) hS hlast hg false v ks (hv.below hW) hks
  have hbd := takeL_bd (S := S) (b := false) ks hks
  have htk : S.take g false ks = S.takeL g false ks := if_pos (wrongC_zero hg hks)
  have hP : ∀ w', SideTo w base B Bd (S.takeL g false ks).1 D w' → ∀ a b c, (a, b, c) = (if (S.takeL g false ks).2.code = 0 then (inodeNo g (S.takeL g false ks).2.group (S.takeL g false ks).2.place, (S.takeL g false ks).2.change, 0) else (0, 0, (S.takeL g false ks).2.code) : Int × Int × Int) →
      GotPost w base B Bd D (S.inode g ks) (.returned (.tuple #[.int .i64 a, .int .i64 b, .int .i64 c])) w' := fun w' hs a b c he => by
    unfold Side.inode
    rw [htk]
    by_cases h0 : (S.takeL g false ks).2.code = 0
    · rw [if_pos h0] at he ⊢
      exact ⟨ret_3' he, hs⟩
    · rw [if_neg h0] at he ⊢
      exact ⟨ret_3' he, hs⟩
  unfold TakePost at ht
  obtain ⟨R, hR⟩ : ∃ R, S.takeL g false ks = R := ⟨_, rfl⟩
  rw [hR] at ht hbd hP
  clear hR
  obtain ⟨S', tg, tp, tc, te⟩ := R
  dsimp only at ht hbd hP
  obtain ⟨Q, hQ⟩ : ∃ Q, GotPost w base B Bd D (S.inode g ks) = Q := ⟨_, rfl⟩
  rw [hQ] at hP ⊢
  have hgb : 1 ≤ g.groups ∧ g.groups ≤ 4 ∧ 1 ≤ g.inodes ∧ g.inodes ≤ 32 := ⟨hg.1, hg.2.1, hg.2.2.1, hg.2.2.2.1⟩
  obtain ⟨ga, gb, gc⟩ := g
  unfold inodeNo manyG at *
  try simp only at hbd hP hgb
  unfold gV at ht ⊢
  unfold pt at ht ⊢
  obtain ⟨W0, hW0⟩ : ∃ W, w.alloc (.cells #[.int .i64 ga, .int .i64 gb, .int .i64 gc] 23) = W := ⟨_, rfl⟩
  have hk := g_keep hW0
  have HB0 := Lib.hid hk.1
  have HK := Lib.hid hk.2
  clear hk
  have HG0 : Hid (W0.heap[w.heap.size]? = some (.cells #[.int .i64 ga, .int .i64 gb, .int .i64 gc] 23 (0, 0))) := by rw [← hW0]; exact heapNew w _
  have ht0 := ht W0 HB0.out
  have HND : Hid (¬ D w.heap.size) := fun hd => by have := hD _ hd; omega
  have HT0 := Lib.hid ht0
  have HBD := Lib.hid hbd
  have HP := Lib.hid hP
  clear ht0 hbd hP
  clear ht h hD hS hlast hg hv hks htk hQ
  obtain ⟨z0, z1, z2⟩ := HK.out W0 (Below.refl _ _)
  go_enter Tryz.func57, Tryz.ntmps57
  go_wp2_with fail
  clear z0 z1 z2 hW0
  refine HT0.out.mono ?_
  rintro e w2 ⟨rfl, hs2⟩
  have hg2 := hs2.heap HG0.out HND.out
  have HS2 := Lib.hid (hs2.ahead HB0.out)
  clear hs2
  have z1 := cellOf (k := 1) hg2 rfl
  by_cases h0 : te = 0
  · obtain ⟨⟨a0, a1⟩, b0, b1⟩ := HBD.out h0
    subst h0
    have b1 : tp < gb := by simpa using b1
    have m0 : 0 ≤ tg * gb := Int.mul_nonneg a0 (by omega)
    have m1 : tg * gb ≤ 4 * 32 := Int.mul_le_mul (by omega) (by omega) (by omega) (by omega)
    have e1 : IntKind.i64.wrap (tg * gb) = tg * gb := IntWalk.i64_in _ (by omega)
    have e2 : IntKind.i64.wrap (tg * gb + tp) = tg * gb + tp := IntWalk.i64_in _ (by omega)
    have e3 : IntKind.i64.wrap (tg * gb + tp + 1) = tg * gb + tp + 1 := IntWalk.i64_in _ (by omega)
    have HE := Lib.hid (HP.out w2 HS2.out _ _ _ (if_pos rfl).symm)
    clear hg2 a0 a1 b0 b1 m0 m1 hgb
    go_wp2
    first | exact HE.out | (refine bodyPost_ret (v := .tuple #[.int .i64 (tg * gb + tp + 1), .int .i64 tc, .int .i64 0]) (by simp [results, Tryz.results57, go_sem]) rfl ?_; exact HE.out)
  · have q1 : (te != 0) = true := by simp [h0]
    have q2 : (te == 0) = false := beq_eq_false_iff_ne.2 h0
    have HE := Lib.hid (HP.out w2 HS2.out _ _ _ (if_neg h0).symm)
    clear hg2 h0 hgb
    go_wp2
    first | exact HE.out | (refine bodyPost_ret (v := .tuple #[.int .i64 0, .int .i64 0, .int .i64 te]) (by simp [results, Tryz.results57, go_sem]) rfl ?_; exact HE.out)
set_option maxRecDepth 20000 in
theorem ablock_any {w : World} {base B Bd : Nat} {S : Sp.Side} {D : Nat → Prop} (h : SideAt w base B Bd S D) (hD : ∀ j, D j → j < w.heap.size) (hS : S.Ok) (hlast : S.deps.last < 1000000000) {g : Sp.Geom} (hg : g.ok) (v : Value) (ks : List Int) (hv : Ints w v ks) (hks : ∀ k ∈ ks, 0 ≤ k ∧ k < g.groups) :
    Calls Tryz.prog 58 #[pt B, gV g, v] w (GotPost w base B Bd D (S.block g ks)) := by
  have ht := fun (W : World) (hW : Below w.heap.size w W) => atake_any (h.below hW) hS hlast hg true v ks (hv.below hW) hks
  have hbd := takeL_bd (S := S) (b := true) ks hks
  have htk : S.take g true ks = S.takeL g true ks := if_pos (wrongC_zero hg hks)
  have hP : ∀ w', SideTo w base B Bd (S.takeL g true ks).1 D w' → ∀ a b c, (a, b, c) = (if (S.takeL g true ks).2.code = 0 then (blockNo g (S.takeL g true ks).2.group (S.takeL g true ks).2.place, (S.takeL g true ks).2.change, 0) else (0, 0, (S.takeL g true ks).2.code) : Int × Int × Int) →
      GotPost w base B Bd D (S.block g ks) (.returned (.tuple #[.int .i64 a, .int .i64 b, .int .i64 c])) w' := fun w' hs a b c he => by
    unfold Side.block
    rw [htk]
    by_cases h0 : (S.takeL g true ks).2.code = 0
    · rw [if_pos h0] at he ⊢
      exact ⟨ret_3' he, hs⟩
    · rw [if_neg h0] at he ⊢
      exact ⟨ret_3' he, hs⟩
  unfold TakePost at ht
  obtain ⟨R, hR⟩ : ∃ R, S.takeL g true ks = R := ⟨_, rfl⟩
  rw [hR] at ht hbd hP
  clear hR
  obtain ⟨S', tg, tp, tc, te⟩ := R
  dsimp only at ht hbd hP
  obtain ⟨Q, hQ⟩ : ∃ Q, GotPost w base B Bd D (S.block g ks) = Q := ⟨_, rfl⟩
  rw [hQ] at hP ⊢
  have hgk := fun (W : World) (h0 : te = 0) => gblock_any W g tg tp
  have hin := fun h0 : te = 0 => blkAt_in hg (hbd h0).1 (hbd h0).2
  obtain ⟨N, hN⟩ : ∃ N, blockNo g tg tp = N := ⟨_, rfl⟩
  rw [hN] at hP hin
  obtain ⟨ga, gb, gc⟩ := g
  try simp only at hP
  unfold gV at ht hgk ⊢
  unfold pt at ht ⊢
  obtain ⟨W0, hW0⟩ : ∃ W, w.alloc (.cells #[.int .i64 ga, .int .i64 gb, .int .i64 gc] 23) = W := ⟨_, rfl⟩
  have hk := g_keep hW0
  have HB0 := Lib.hid hk.1
  have HK := Lib.hid hk.2
  clear hk
  have HG0 : Hid (W0.heap[w.heap.size]? = some (.cells #[.int .i64 ga, .int .i64 gb, .int .i64 gc] 23 (0, 0))) := by rw [← hW0]; exact heapNew w _
  have ht0 := ht W0 HB0.out
  have HND : Hid (¬ D w.heap.size) := fun hd => by have := hD _ hd; omega
  have HT0 := Lib.hid ht0
  have HP := Lib.hid hP
  have HGK := Lib.hid hgk
  have HIN := Lib.hid hin
  clear ht0 hP hgk hin
  clear ht h hD hS hlast hg hv hks htk hQ hbd hN
  obtain ⟨z0, z1, z2⟩ := HK.out W0 (Below.refl _ _)
  go_enter Tryz.func58, Tryz.ntmps58
  go_wp2_with fail
  clear z0 z1 z2 hW0
  refine HT0.out.mono ?_
  rintro e w2 ⟨rfl, hs2⟩
  have hg2 := hs2.heap HG0.out HND.out
  have HS2 := Lib.hid (hs2.ahead HB0.out)
  clear hs2
  have z0 := cellOf (k := 0) hg2 rfl
  have z1 := cellOf (k := 1) hg2 rfl
  have z2 := cellOf (k := 2) hg2 rfl
  by_cases h0 : te = 0
  · have hk := fun W => HGK.out W h0
    rw [HIN.out h0] at hk
    subst h0
    have HE := Lib.hid (fun w' hb => HP.out w' (HS2.out.behind hb) _ _ _ (if_pos rfl).symm)
    have HK := Lib.hid hk
    clear hk
    clear hg2
    go_wp2_with fail
    clear z0 z1 z2
    refine (HK.out _).mono ?_
    rintro e w3 ⟨rfl, hb3⟩
    have HB3 := Lib.hid hb3
    clear hb3
    go_wp2
    first | exact HE.out _ HB3.out | (refine bodyPost_ret (v := .tuple #[.int .i64 N, .int .i64 tc, .int .i64 0]) (by simp [results, Tryz.results58, go_sem]) rfl ?_; exact HE.out _ HB3.out)
  · have q1 : (te != 0) = true := by simp [h0]
    have q2 : (te == 0) = false := beq_eq_false_iff_ne.2 h0
    have HE := Lib.hid (HP.out w2 HS2.out _ _ _ (if_neg h0).symm)
    clear hg2 h0
    go_wp2
    first | exact HE.out | (refine bodyPost_ret (v := .tuple #[.int .i64 0, .int .i64 0, .int .i64 te]) (by simp [results, Tryz.results58, go_sem]) rfl ?_; exact HE.out)
set_option maxRecDepth 20000 in
theorem agive_any {w : World} {base B Bd : Nat} {S : Sp.Side} {D : Nat → Prop} (h : SideAt w base B Bd S D) (hS : S.Ok) (hlast : S.deps.last < 1000000000) {g : Sp.Geom} (hg : g.ok) (b : Bool) {k p : Int} (hk : 0 ≤ k ∧ k < g.groups) (hp : 0 ≤ p ∧ p < manyG g b) (v : Value) (ahead : List Int) (hv : Ints w v ahead) (hal : ahead.length ≤ 100000) :
    Calls Tryz.prog 178 #[pt B, gV g, .bool b, .int .i64 k, .int .i64 p, v] w (GavePost w base B Bd D (S.give g b k p ahead)) := by
  have hlook := fun (W : World) (hW : Below w.heap.size w W) => alook_any (h.below hW) hS hg hk b
  have hmp : manyC (manyG g b) p = 0 := by
    have := manyG_ok hg b
    unfold manyC
    rw [if_neg (by omega)]
  have hset := fun (W : World) (hW : Below w.heap.size w W) (t : ByteArray) => aset_any (h.below hW) hS hlast (mapAtG g k b) t (manyG g b) p false hmp v ahead (hv.below hW) hal
  simp only [Bool.false_eq_true, if_false] at hset
  have hno : ∀ w', S.look g k b = none → Below w.heap.size w w' → GavePost w base B Bd D (S.give g b k p ahead) (.returned (.tuple #[.int .i64 0, .int .i64 180])) w' := fun w' hl hb => by
    unfold Side.give
    rw [hl]
    exact ⟨rfl, SideTo.none h hb⟩
  have hfree : ∀ t w', S.look g k b = some t → ¬ t.data.toList.getD p.toNat 0 = 1 → Below w.heap.size w w' → GavePost w base B Bd D (S.give g b k p ahead) (.returned (.tuple #[.int .i64 0, .int .i64 120])) w' := fun t w' hl hb1 hb => by
    unfold Side.give
    rw [hl]
    dsimp only
    rw [if_neg (fun h => hb1 h.2.2)]
    exact ⟨rfl, SideTo.none h hb⟩
  have hyes : ∀ t W w', S.look g k b = some t → t.data.toList.getD p.toNat 0 = 1 → Below w.heap.size w W → SideTo W base B Bd (S.change (mapAtG g k b) p zeroB ahead) D w' →
      GavePost w base B Bd D (S.give g b k p ahead) (.returned (.tuple #[.int .i64 (S.changeN (mapAtG g k b) p zeroB ahead), .int .i64 (S.changeC (mapAtG g k b) p zeroB ahead)])) w' := fun t W w' hl hb1 hb hs => by
    unfold Side.give
    rw [hl]
    dsimp only
    rw [if_pos ⟨hp.1, hp.2, hb1⟩]
    exact ⟨rfl, hs.ahead hb⟩
  have htk := fun (W : World) (t : ByteArray) (ht : S.look g k b = some t) => mtaken_any W t (manyG g b) p (look_some ht).2.2 hp
  obtain ⟨Q, hQ⟩ : ∃ Q, GavePost w base B Bd D (S.give g b k p ahead) = Q := ⟨_, rfl⟩
  rw [hQ] at hno hfree hyes ⊢
  unfold LookPost chartV at hlook
  obtain ⟨n, hn⟩ : ∃ n, manyG g b = n := ⟨_, rfl⟩
  obtain ⟨a, ha⟩ : ∃ a, mapAtG g k b = a := ⟨_, rfl⟩
  rw [hn, ha] at hlook hset
  rw [hn] at htk
  rw [ha] at hyes
  obtain ⟨Y, hY⟩ : ∃ Y, S.changeN a p zeroB ahead = Y := ⟨_, rfl⟩
  obtain ⟨Z, hZ⟩ : ∃ Y, S.changeC a p zeroB ahead = Y := ⟨_, rfl⟩
  rw [hY, hZ] at hset hyes
  obtain ⟨L, hL⟩ : ∃ L, S.look g k b = L := ⟨_, rfl⟩
  rw [hL] at hlook hno hfree hyes htk
  obtain ⟨ga, gb, gc⟩ := g
  unfold gV at hlook ⊢
  unfold pt at hlook hset ⊢
  obtain ⟨W0, hW0⟩ : ∃ W, w.alloc (.cells #[.int .i64 ga, .int .i64 gb, .int .i64 gc] 23) = W := ⟨_, rfl⟩
  have hk := g_keep hW0
  have HB0 := Lib.hid hk.1
  have HK := Lib.hid hk.2
  clear hk
  have hl0 := hlook W0 HB0.out
  clear h hS hlast hg hk hp hv hal hmp hQ hn ha hL hY hZ hlook
  cases L with
  | none =>
    dsimp only at hl0
    have HNO := Lib.hid (fun w' => hno w' rfl)
    have HL0 := Lib.hid hl0
    clear hl0
    clear hno hfree hyes htk hset
    obtain ⟨z0, z1, z2⟩ := HK.out W0 (Below.refl _ _)
    go_enter Tryz.func178, Tryz.ntmps178
    go_wp2_with fail
    clear z0 z1 z2 hW0
    refine HL0.out.mono ?_
    rintro e w2 ⟨rfl, hb2⟩
    have HB2 := Lib.hid (blN HB0.out hb2)
    clear hb2
    go_wp2
    first | exact HNO.out _ (bl1 HB2.out _) | (go_ret2; exact HNO.out _ (bl1 HB2.out _))
  | some t =>
    dsimp only at hl0
    have htk2 := fun W => htk W t rfl
    obtain ⟨x, hx⟩ : ∃ x, t.data.toList.getD p.toNat 0 = x := ⟨_, rfl⟩
    rw [hx] at htk2
    have hset2 := fun W hW => hset W hW t
    have hfr := fun w' => hfree t w' rfl
    have hye := fun W w' => hyes t W w' rfl
    rw [hx] at hfr hye
    have HL0 := Lib.hid hl0
    have HTK2 := Lib.hid htk2
    have HSET2 := Lib.hid hset2
    have HFR := Lib.hid hfr
    have HYE := Lib.hid hye
    clear hl0 htk2 hset2 hfr hye
    clear hno hfree hyes htk hset hx
    obtain ⟨z0, z1, z2⟩ := HK.out W0 (Below.refl _ _)
    go_enter Tryz.func178, Tryz.ntmps178
    go_wp2_with fail
    clear z0 z1 z2 hW0
    refine HL0.out.mono ?_
    rintro e w2 ⟨rfl, hb2⟩
    have HB2 := Lib.hid (blN HB0.out hb2)
    clear hb2
    obtain ⟨W3, hW3⟩ : ∃ W, w2.alloc (.cells #[.pointer (some ⟨B, 0, none⟩), .int .i64 a, .string t, .int .i64 n] 176) = W := ⟨_, rfl⟩
    have HB3 : Hid (Below w.heap.size w W3) := by rw [← hW3]; exact bl1 HB2.out _
    have HC3 : Hid (W3.heap[w2.heap.size]? = some (.cells #[.pointer (some ⟨B, 0, none⟩), .int .i64 a, .string t, .int .i64 n] 176 (0, 0))) := by rw [← hW3]; exact heapNew w2 _
    have y2 := cellOf (k := 2) HC3.out rfl
    have y3 := cellOf (k := 3) HC3.out rfl
    go_wp2_with fail
    clear y2 y3 hW3
    refine (HTK2.out _).mono ?_
    rintro e w4 ⟨rfl, hb4⟩
    have HB4 := Lib.hid (blN HB3.out hb4)
    have HC4 := Lib.hid (heapOld hb4 HC3.out)
    clear hb4
    by_cases h1 : x = 1
    · have q1 : (x == 1) = true := beq_iff_eq.2 h1
      have HE := Lib.hid (fun W w' hb hs => HYE.out W w' h1 hb hs)
      have y0 := cellOf (k := 0) HC4.out rfl
      have y1 := cellOf (k := 1) HC4.out rfl
      have y2 := cellOf (k := 2) HC4.out rfl
      have y3 := cellOf (k := 3) HC4.out rfl
      clear h1
      rw [q1]
      go_wp2_with fail
      clear y0 y1 y2 y3
      refine (HSET2.out _ HB4.out).mono ?_
      rintro e w5 ⟨rfl, hs5⟩
      have HF5 := Lib.hid (HE.out _ _ HB4.out hs5)
      clear hs5
      go_wp2
      first | exact HF5.out | (go_ret2; exact HF5.out)
    · have q1 : (x == 1) = false := beq_eq_false_iff_ne.2 h1
      have HE := Lib.hid (fun w' hb => HFR.out w' h1 hb)
      clear h1
      rw [q1]
      go_wp2
      first | exact HE.out _ HB4.out | (go_ret2; exact HE.out _ HB4.out)
end
end Go.Proofs.YtgofmnhfajmbfaaGreatDoor

namespace Go.Proofs.YtgofmnhfajmbfaaGreatDoor
open Go Go.RowKit Txt Sp

theorem inodeAt_C {g : Sp.Geom} (hg : g.ok) (n : Int) : (inodeAt g n).2.2.2 = inodeC g n ∧ (inodeC g n = 0 → (inodeAt g n).2.1 = (n - 1) / g.inodes ∧ (inodeAt g n).2.2.1 = (n - 1) % g.inodes ∧ (0 ≤ (n - 1) / g.inodes ∧ (n - 1) / g.inodes < g.groups) ∧ (0 ≤ (n - 1) % g.inodes ∧ (n - 1) % g.inodes < g.inodes)) := by
  have hm := Geom.many_ok hg
  by_cases h : n < 1 ∨ g.groups * g.inodes < n
  · have hc : inodeC g n = 1 := by unfold inodeC; rw [if_pos hg, if_pos h]
    refine ⟨?_, fun h0 => by omega⟩
    rw [hc]
    unfold inodeAt Geom.within
    rw [if_pos hg, hm]
    by_cases h1 : n < 0 ∨ g.groups * g.inodes + 1 ≤ n
    · rw [if_pos h1, if_neg (by decide)]
    · rw [if_neg h1, if_pos rfl, if_pos (by omega)]
  · have h2 := inodeC_no hg (n := n) (by omega) (by omega)
    refine ⟨?_, fun _ => ⟨?_, ?_, h2.2.1, h2.2.2.1⟩⟩
    all_goals
      try rw [h2.1]
      unfold inodeAt Geom.within
      rw [if_pos hg, hm, if_neg (show ¬ (n < 0 ∨ g.groups * g.inodes + 1 ≤ n) by omega), if_pos rfl, if_neg (show ¬ n = 0 by omega)]
theorem blockC_bd {g : Sp.Geom} {s : Int} (h : blockC g s = 0) : (0 ≤ (g.kind s).2 / g.blocks ∧ (g.kind s).2 / g.blocks < g.groups) ∧ (0 ≤ (g.kind s).2 % g.blocks ∧ (g.kind s).2 % g.blocks < g.blocks) := by
  unfold blockC at h
  split at h
  · rename_i hg
    split at h
    · exact absurd h (by decide)
    · rename_i hr
      split at h
      · rename_i h6
        have hnf : ¬ s < g.first 0 := fun hf => by
          unfold Geom.kind at h6
          rw [if_pos hf] at h6
          split at h6
          · simp only at h6
            omega
          · exact absurd (show (2 : Int) = 6 from h6) (by decide)
        obtain ⟨d0, d1, d2, d3⟩ := group_bd hg hnf (by omega)
        have hb := hg.2.2.2.2
        have hl : g.long = 2 + g.inodes + g.blocks := rfl
        unfold Geom.kind at h6 ⊢
        rw [if_neg hnf] at h6 ⊢
        by_cases h7 : 2 + g.inodes ≤ (s - g.first 0) % g.long
        · rw [if_pos h7]
          dsimp only
          obtain ⟨q, hq⟩ : ∃ q, (s - g.first 0) / g.long = q := ⟨_, rfl⟩
          obtain ⟨r, hr⟩ : ∃ q, (s - g.first 0) % g.long = q := ⟨_, rfl⟩
          rw [hq] at d0 d1 ⊢
          rw [hr] at d2 d3 h7 ⊢
          rw [show q * g.blocks + r - 2 - g.inodes = (r - 2 - g.inodes) + q * g.blocks by omega, Int.add_mul_ediv_right _ _ (by omega), Int.add_mul_emod_self_right, Int.ediv_eq_zero_of_lt (by omega) (by omega), Int.emod_eq_of_lt (by omega) (by omega)]
          omega
        · rw [if_neg h7] at h6
          split at h6
          · exact absurd (show (5 : Int) = 6 from h6) (by decide)
          · simp only at h6
            omega
      · exact absurd h (by decide)
  · exact absurd h (by decide)
theorem GavePost.ahead {w w1 w' : World} {base B Bd : Nat} {D : Nat → Prop} {T : Sp.Side × Int × Int} {e : Ending} (hb : Below w.heap.size w w1) (h : GavePost w1 base B Bd D T e w') : GavePost w base B Bd D T e w' := ⟨h.1, h.2.ahead hb⟩
section
set_option maxHeartbeats 4000000
set_option maxRecDepth 20000 in
theorem afreeInode_any {w : World} {base B Bd : Nat} {S : Sp.Side} {D : Nat → Prop} (h : SideAt w base B Bd S D) (hS : S.Ok) (hlast : S.deps.last < 1000000000) {g : Sp.Geom} (hg : g.ok) (n : Int) (v : Value) (ahead : List Int) (hv : Ints w v ahead) (hal : ahead.length ≤ 100000) :
    Calls Tryz.prog 103 #[pt B, gV g, .int .i64 n, v] w (GavePost w base B Bd D (S.freeInode g n ahead)) := by
  have hw := fun (W : World) => awrong_any W B g hg (.slice none 0 0) [] (RowAt.void _ 1) (by simp)
  have hi := fun W : World => ginode_any W g n
  obtain ⟨i1, i2⟩ := inodeAt_C hg n
  have hno : ∀ w', inodeC g n ≠ 0 → Below w.heap.size w w' → GavePost w base B Bd D (S.freeInode g n ahead) (.returned (.tuple #[.int .i64 0, .int .i64 (inodeC g n)])) w' := fun w' hc hb => by
    unfold Side.freeInode
    rw [if_neg hc]
    exact ⟨rfl, SideTo.none h hb⟩
  have hgv := fun (W : World) (hW : Below w.heap.size w W) (hc : inodeC g n = 0) => agive_any (h.below hW) hS hlast hg false (i2 hc).2.2.1 (i2 hc).2.2.2 v ahead (hv.below hW) hal
  have hyes : ∀ W e w', inodeC g n = 0 → Below w.heap.size w W → GavePost W base B Bd D (S.give g false ((n - 1) / g.inodes) ((n - 1) % g.inodes) ahead) e w' → GavePost w base B Bd D (S.freeInode g n ahead) e w' := fun W e w' hc hb hp => by
    unfold Side.freeInode
    rw [if_pos hc]
    exact hp.ahead hb
  rw [i1] at hi
  obtain ⟨x1, hx1⟩ : ∃ x, (inodeAt g n).1 = x := ⟨_, rfl⟩
  obtain ⟨x2, hx2⟩ : ∃ x, (inodeAt g n).2.1 = x := ⟨_, rfl⟩
  obtain ⟨x3, hx3⟩ : ∃ x, (inodeAt g n).2.2.1 = x := ⟨_, rfl⟩
  rw [hx1, hx2, hx3] at hi
  have i3 := fun hc => (i2 hc).1
  have i4 := fun hc => (i2 hc).2.1
  rw [hx2] at i3
  rw [hx3] at i4
  obtain ⟨c, hc⟩ : ∃ c, inodeC g n = c := ⟨_, rfl⟩
  rw [hc] at hi hno hgv hyes i3 i4
  obtain ⟨Q, hQ⟩ : ∃ Q, GavePost w base B Bd D (S.freeInode g n ahead) = Q := ⟨_, rfl⟩
  rw [hQ] at hno hyes ⊢
  clear hQ hc hx1 hx2 hx3 i1 i2 h hS hlast hg hv hal
  by_cases h0 : c = 0
  · subst h0
    have e3 := i3 rfl
    have e4 := i4 rfl
    rw [← e3, ← e4] at hgv hyes
    obtain ⟨Y, hY⟩ : ∃ Y, S.give g false x2 x3 ahead = Y := ⟨_, rfl⟩
    rw [hY] at hgv hyes
    obtain ⟨S', y1, y2⟩ := Y
    have hgv2 := fun W hW => hgv W hW rfl
    have hye := fun W e w' => hyes W e w' rfl
    clear hno hyes hgv i3 i4 e3 e4 hY
    obtain ⟨ga, gb, gc⟩ := g
    unfold gV at hw hi hgv2 ⊢
    unfold pt at hw hgv2 ⊢
    obtain ⟨W0, hW0⟩ : ∃ W, w.alloc (.cells #[.int .i64 ga, .int .i64 gb, .int .i64 gc] 23) = W := ⟨_, rfl⟩
    have hk := g_keep hW0
    have HB0 := Lib.hid hk.1
    have HK := Lib.hid hk.2
    clear hk
    have HW := Lib.hid hw
    have HI := Lib.hid hi
    have HGV2 := Lib.hid hgv2
    have HYE := Lib.hid hye
    clear hw hi hgv2 hye
    obtain ⟨z0, z1, z2⟩ := HK.out W0 (Below.refl _ _)
    go_enter Tryz.func103, Tryz.ntmps103
    go_wp2_with fail
    clear z0 z1 z2
    refine (HW.out _).mono ?_
    rintro e w1 ⟨rfl, hb1⟩
    have HB1 := Lib.hid hb1
    clear hb1
    obtain ⟨z0, z1, z2⟩ := HK.out w1 HB1.out
    go_wp2_with fail
    clear z0 z1 z2
    refine (HI.out _).mono ?_
    rintro e w2 ⟨rfl, hb2⟩
    have HB2 := Lib.hid (blN HB1.out hb2)
    clear hb2
    obtain ⟨z0, z1, z2⟩ := HK.out w2 HB2.out
    go_wp2_with fail
    clear z0 z1 z2
    refine (HGV2.out _ (blN HB0.out HB2.out)).mono ?_
    intro e w3 hp3
    have HP3 := Lib.hid (HYE.out _ _ _ (blN HB0.out HB2.out) hp3)
    obtain ⟨he, -⟩ := hp3
    subst he
    go_wp2
    first | exact HP3.out | (go_ret2; exact HP3.out)
  · have q1 : (c != 0) = true := by simp [h0]
    have q2 : (c == 0) = false := beq_eq_false_iff_ne.2 h0
    have hn := fun w' => hno w' h0
    clear hno hyes hgv i3 i4 h0
    obtain ⟨ga, gb, gc⟩ := g
    unfold gV at hw hi ⊢
    unfold pt at hw ⊢
    obtain ⟨W0, hW0⟩ : ∃ W, w.alloc (.cells #[.int .i64 ga, .int .i64 gb, .int .i64 gc] 23) = W := ⟨_, rfl⟩
    have hk := g_keep hW0
    have HB0 := Lib.hid hk.1
    have HK := Lib.hid hk.2
    clear hk
    have HW := Lib.hid hw
    have HI := Lib.hid hi
    have HN := Lib.hid hn
    clear hw hi hn
    obtain ⟨z0, z1, z2⟩ := HK.out W0 (Below.refl _ _)
    go_enter Tryz.func103, Tryz.ntmps103
    go_wp2_with fail
    clear z0 z1 z2
    refine (HW.out _).mono ?_
    rintro e w1 ⟨rfl, hb1⟩
    have HB1 := Lib.hid hb1
    clear hb1
    obtain ⟨z0, z1, z2⟩ := HK.out w1 HB1.out
    go_wp2_with fail
    clear z0 z1 z2
    refine (HI.out _).mono ?_
    rintro e w2 ⟨rfl, hb2⟩
    have HB2 := Lib.hid (blN HB1.out hb2)
    clear hb2
    go_wp2
    first | exact HN.out _ (blN HB0.out HB2.out) | (go_ret2; exact HN.out _ (blN HB0.out HB2.out))
set_option maxRecDepth 20000 in
theorem afreeBlock_any {w : World} {base B Bd : Nat} {S : Sp.Side} {D : Nat → Prop} (h : SideAt w base B Bd S D) (hS : S.Ok) (hlast : S.deps.last < 1000000000) {g : Sp.Geom} (hg : g.ok) (n : Int) (v : Value) (ahead : List Int) (hv : Ints w v ahead) (hal : ahead.length ≤ 100000) :
    Calls Tryz.prog 177 #[pt B, gV g, .int .i64 n, v] w (GavePost w base B Bd D (S.freeBlock g n ahead)) := by
  have hw := fun (W : World) => awrong_any W B g hg (.slice none 0 0) [] (RowAt.void _ 1) (by simp)
  have hi := fun W : World => gplace_any W g n
  have i2 : blockC g n = 0 → placeAt g n = ((g.kind n).2 / g.blocks, (g.kind n).2 % g.blocks, 0) := fun hc => by unfold placeAt; rw [if_pos hc]
  have i5 : blockC g n ≠ 0 → placeAt g n = (0, 0, blockC g n) := fun hc => by unfold placeAt; rw [if_neg hc]
  have hno : ∀ w', blockC g n ≠ 0 → Below w.heap.size w w' → GavePost w base B Bd D (S.freeBlock g n ahead) (.returned (.tuple #[.int .i64 0, .int .i64 (blockC g n)])) w' := fun w' hc hb => by
    unfold Side.freeBlock
    rw [if_neg hc]
    exact ⟨rfl, SideTo.none h hb⟩
  have hgv := fun (W : World) (hW : Below w.heap.size w W) (hc : blockC g n = 0) => agive_any (h.below hW) hS hlast hg true (blockC_bd hc).1 (blockC_bd hc).2 v ahead (hv.below hW) hal
  have hyes : ∀ W e w', blockC g n = 0 → Below w.heap.size w W → GavePost W base B Bd D (S.give g true ((g.kind n).2 / g.blocks) ((g.kind n).2 % g.blocks) ahead) e w' → GavePost w base B Bd D (S.freeBlock g n ahead) e w' := fun W e w' hc hb hp => by
    unfold Side.freeBlock
    rw [if_pos hc]
    exact hp.ahead hb
  obtain ⟨x2, hx2⟩ : ∃ x, (g.kind n).2 / g.blocks = x := ⟨_, rfl⟩
  obtain ⟨x3, hx3⟩ : ∃ x, (g.kind n).2 % g.blocks = x := ⟨_, rfl⟩
  rw [hx2, hx3] at hgv hyes i2
  obtain ⟨c, hc⟩ : ∃ c, blockC g n = c := ⟨_, rfl⟩
  rw [hc] at hno hgv hyes i2 i5
  obtain ⟨Q, hQ⟩ : ∃ Q, GavePost w base B Bd D (S.freeBlock g n ahead) = Q := ⟨_, rfl⟩
  rw [hQ] at hno hyes ⊢
  clear hQ hc hx2 hx3 h hS hlast hg hv hal
  by_cases h0 : c = 0
  · subst h0
    rw [i2 rfl] at hi
    obtain ⟨Y, hY⟩ : ∃ Y, S.give g true x2 x3 ahead = Y := ⟨_, rfl⟩
    rw [hY] at hgv hyes
    obtain ⟨S', y1, y2⟩ := Y
    have hgv2 := fun W hW => hgv W hW rfl
    have hye := fun W e w' => hyes W e w' rfl
    clear hno hyes hgv i2 i5 hY
    obtain ⟨ga, gb, gc⟩ := g
    unfold gV at hw hi hgv2 ⊢
    unfold pt at hw hgv2 ⊢
    obtain ⟨W0, hW0⟩ : ∃ W, w.alloc (.cells #[.int .i64 ga, .int .i64 gb, .int .i64 gc] 23) = W := ⟨_, rfl⟩
    have hk := g_keep hW0
    have HB0 := Lib.hid hk.1
    have HK := Lib.hid hk.2
    clear hk
    have HW := Lib.hid hw
    have HI := Lib.hid hi
    have HGV2 := Lib.hid hgv2
    have HYE := Lib.hid hye
    clear hw hi hgv2 hye
    obtain ⟨z0, z1, z2⟩ := HK.out W0 (Below.refl _ _)
    go_enter Tryz.func177, Tryz.ntmps177
    go_wp2_with fail
    clear z0 z1 z2
    refine (HW.out _).mono ?_
    rintro e w1 ⟨rfl, hb1⟩
    have HB1 := Lib.hid hb1
    clear hb1
    obtain ⟨z0, z1, z2⟩ := HK.out w1 HB1.out
    go_wp2_with fail
    clear z0 z1 z2
    refine (HI.out _).mono ?_
    rintro e w2 ⟨rfl, hb2⟩
    have HB2 := Lib.hid (blN HB1.out hb2)
    clear hb2
    obtain ⟨z0, z1, z2⟩ := HK.out w2 HB2.out
    go_wp2_with fail
    clear z0 z1 z2
    refine (HGV2.out _ (blN HB0.out HB2.out)).mono ?_
    intro e w3 hp3
    have HP3 := Lib.hid (HYE.out _ _ _ (blN HB0.out HB2.out) hp3)
    obtain ⟨he, -⟩ := hp3
    subst he
    go_wp2
    first | exact HP3.out | (go_ret2; exact HP3.out)
  · have q1 : (c != 0) = true := by simp [h0]
    have q2 : (c == 0) = false := beq_eq_false_iff_ne.2 h0
    rw [i5 h0] at hi
    have hn := fun w' => hno w' h0
    clear hno hyes hgv i2 i5 h0
    obtain ⟨ga, gb, gc⟩ := g
    unfold gV at hw hi ⊢
    unfold pt at hw ⊢
    obtain ⟨W0, hW0⟩ : ∃ W, w.alloc (.cells #[.int .i64 ga, .int .i64 gb, .int .i64 gc] 23) = W := ⟨_, rfl⟩
    have hk := g_keep hW0
    have HB0 := Lib.hid hk.1
    have HK := Lib.hid hk.2
    clear hk
    have HW := Lib.hid hw
    have HI := Lib.hid hi
    have HN := Lib.hid hn
    clear hw hi hn
    obtain ⟨z0, z1, z2⟩ := HK.out W0 (Below.refl _ _)
    go_enter Tryz.func177, Tryz.ntmps177
    go_wp2_with fail
    clear z0 z1 z2
    refine (HW.out _).mono ?_
    rintro e w1 ⟨rfl, hb1⟩
    have HB1 := Lib.hid hb1
    clear hb1
    obtain ⟨z0, z1, z2⟩ := HK.out w1 HB1.out
    go_wp2_with fail
    clear z0 z1 z2
    refine (HI.out _).mono ?_
    rintro e w2 ⟨rfl, hb2⟩
    have HB2 := Lib.hid (blN HB1.out hb2)
    clear hb2
    go_wp2
    first | exact HN.out _ (blN HB0.out HB2.out) | (go_ret2; exact HN.out _ (blN HB0.out HB2.out))
end
end Go.Proofs.YtgofmnhfajmbfaaGreatDoor

namespace Go.Proofs.YtgofmnhfajmbfaaGreatDoor
open Go Go.RowKit Txt Sp

theorem onesN_le {s : ByteArray} {n : Int} (h : mapC s n = 0) : (onesN s : Int) ≤ n ∧ n ≤ 64 := by
  have h1 := mapC_size h
  rw [onesN_bits h]
  have := List.countP_le_length (p := fun p => bitAt s p == 1) (l := List.range n.toNat)
  rw [List.length_range] at this
  omega
theorem freeL_cons {S : Sp.Side} {g : Sp.Geom} {k : Int} {r : List Int} {x y : Int} (h : S.freeL g (k :: r) = some (x, y)) :
    ∃ s t x' y', S.look g k false = some s ∧ S.look g k true = some t ∧ S.freeL g r = some (x', y') ∧ x = g.inodes - onesN s + x' ∧ y = g.blocks - onesN t + y' := by
  unfold Side.freeL at h
  cases h1 : S.look g k false with
  | none => rw [h1] at h; cases h
  | some s =>
    cases h2 : S.look g k true with
    | none => rw [h1, h2] at h; cases h
    | some t =>
      cases h3 : S.freeL g r with
      | none => rw [h1, h2, h3] at h; cases h
      | some p =>
        obtain ⟨x', y'⟩ := p
        rw [h1, h2, h3] at h
        simp only [Option.some.injEq, Prod.mk.injEq] at h
        exact ⟨s, t, x', y', rfl, rfl, rfl, h.1.symm, h.2.symm⟩
section
set_option maxHeartbeats 8000000
set_option maxRecDepth 20000 in
theorem afree_any {w : World} {base B Bd : Nat} {S : Sp.Side} {D : Nat → Prop} (h : SideAt w base B Bd S D) (hS : S.Ok) {g : Sp.Geom} (hg : g.ok) (v : Value) (ks : List Int) (hv : Ints w v ks) (hks : ∀ k ∈ ks, 0 ≤ k ∧ k < g.groups) {x y : Int} (hx : S.freeL g ks = some (x, y)) (hlen : ks.length ≤ 1000000) :
    Calls Tryz.prog 30 #[pt B, gV g, v] w fun e w' => e = .returned (.tuple #[.int .i64 x, .int .i64 y, .int .i64 0]) ∧ Below w.heap.size w w' := by
  have hw := fun (W : World) (hW : Below w.heap.size w W) => awrong_any W B g hg v ks (hv.below hW) hks
  obtain ⟨ad, len, cap, rfl, HN, hn2, HF⟩ := RowAt.facts hv
  have hlen2 : len ≤ 1000000 := by have := HN.out; omega
  have hlook := fun (W : World) (hW : Below w.heap.size w W) (k : Int) (hk : 0 ≤ k ∧ k < g.groups) (b : Bool) => alook_any (h.below hW) hS hg hk b
  have hls := fun (k : Int) (b : Bool) (t : ByteArray) (ht : S.look g k b = some t) => (look_some ht).2.2
  have hcnt := fun (W : World) (t : ByteArray) (n : Int) (ht : mapC t n = 0) => mcount_any W t n ht
  obtain ⟨ga, gb, gc⟩ := g
  unfold manyG at hls
  unfold LookPost chartV manyG at hlook
  simp only at hks hlook hls
  unfold gV at hw hlook ⊢
  unfold pt at hw hlook ⊢
  obtain ⟨W0, hW0⟩ : ∃ W, w.alloc (.cells #[.int .i64 ga, .int .i64 gb, .int .i64 gc] 23) = W := ⟨_, rfl⟩
  have hk := g_keep hW0
  have HB0 := Lib.hid hk.1
  have HK := Lib.hid hk.2
  clear hk
  have hw0 := hw W0 HB0.out
  have HW0 := Lib.hid hw0
  have HLOOK := Lib.hid hlook
  have HCNT := Lib.hid hcnt
  have HLS := Lib.hid hls
  have HKS := Lib.hid hks
  have HX := Lib.hid hx
  clear hw0 hlook hcnt hls hks hx
  clear hw h hS hg hv hlen
  obtain ⟨z0, z1, z2⟩ := HK.out W0 (Below.refl _ _)
  go_enter Tryz.func30, Tryz.ntmps30
  go_wp2_with fail
  clear z0 z1 z2
  refine HW0.out.mono ?_
  rintro e w1 ⟨rfl, hb1⟩
  have HB1 := Lib.hid hb1
  clear hb1
  go_wp2
  go_loopw [6, 7, 27] (fun i6 i7 i wr => Hid (Below W0.heap.size W0 wr) ∧ ∃ (k : Nat) (p q xr yr : Int), k ≤ len ∧ i = .int .i64 (k : Int) ∧ i6 = .int .i64 p ∧ i7 = .int .i64 q ∧ Hid (S.freeL ⟨ga, gb, gc⟩ (ks.drop k) = some (xr, yr)) ∧ Hid (x = p + xr ∧ y = q + yr) ∧ (0 ≤ p ∧ p ≤ 64 * k) ∧ (0 ≤ q ∧ q ≤ 64 * k)) (fun _ _ i _ => len - (intOf i).toNat)
  case atStart => exact ⟨HB1, 0, 0, 0, x, y, Nat.zero_le _, rfl, rfl, rfl, HX, ⟨(Int.zero_add _).symm, (Int.zero_add _).symm⟩, ⟨by omega, by omega⟩, by omega, by omega⟩
  case round =>
    obtain ⟨HB, k, p, q, xr, yr, hk, rfl, rfl, rfl, HR, HS, ⟨hp0, hp1⟩, hq0, hq1⟩ := hrel
    by_cases hlt : k < len
    · obtain ⟨bl, o, z, rfl, hbl, hz, hc⟩ := HF.out k hlt
      have c0 : wr.cell? ⟨bl, o + k, none⟩ = some (.int .i64 z) := by
        have h := ((blN HB0.out HB.out).cell (p := ⟨bl, o + k * 1 + 0, none⟩) hbl).trans (hc 0 _ rfl)
        simpa using h
      have hin := HKS.out z (List.mem_of_getElem? hz)
      have hdrop : ks.drop k = z :: ks.drop (k + 1) := by
        have hl := (List.getElem?_eq_some_iff.1 hz)
        rw [List.drop_eq_getElem_cons hl.1, hl.2]
      have hfr := HR.out
      rw [hdrop] at hfr
      obtain ⟨s, t, xr', yr', hs, ht, hr', hxe, hye⟩ := freeL_cons hfr
      have ms := HLS.out z false s hs
      have mt := HLS.out z true t ht
      have os := onesN_le ms
      have ot := onesN_le mt
      have hl1 := fun W hW => HLOOK.out W hW z hin false
      have hl2 := fun W hW => HLOOK.out W hW z hin true
      rw [hs] at hl1
      rw [ht] at hl2
      dsimp only at hl1 hl2
      have hc1 := fun W => HCNT.out W s _ ms
      have hc2 := fun W => HCNT.out W t _ mt
      simp only [if_true, Bool.false_eq_true, if_false] at hl1 hl2 hc1 hc2 ms mt os ot
      obtain ⟨n1, hn1⟩ : ∃ n : Nat, onesN s = n := ⟨_, rfl⟩
      obtain ⟨n2, hn2⟩ : ∃ n : Nat, onesN t = n := ⟨_, rfl⟩
      obtain ⟨a1, ha1⟩ : ∃ a, mapAtG ⟨ga, gb, gc⟩ z false = a := ⟨_, rfl⟩
      obtain ⟨a2, ha2⟩ : ∃ a, mapAtG ⟨ga, gb, gc⟩ z true = a := ⟨_, rfl⟩
      rw [hn1] at hc1 os hxe
      rw [hn2] at hc2 ot hye
      rw [ha1] at hl1
      rw [ha2] at hl2
      have hxe : xr = gb - n1 + xr' := hxe
      have hye : yr = gc - n2 + yr' := hye
      have HSum : Hid (x = (p + (gb - n1)) + xr' ∧ y = (q + (gc - n2)) + yr') := by have := HS.out; show _ ∧ _; omega
      have HR2 := Lib.hid hr'
      have e1 : IntKind.i64.wrap (gb - (n1 : Int)) = gb - n1 := IntWalk.i64_in _ (by omega)
      have e2 : IntKind.i64.wrap (p + (gb - (n1 : Int))) = p + (gb - n1) := IntWalk.i64_in _ (by omega)
      have e3 : IntKind.i64.wrap (gc - (n2 : Int)) = gc - n2 := IntWalk.i64_in _ (by omega)
      have e4 : IntKind.i64.wrap (q + (gc - (n2 : Int))) = q + (gc - n2) := IntWalk.i64_in _ (by omega)
      have e5 : 0 ≤ gb - (n1 : Int) ∧ gb - (n1 : Int) ≤ 64 ∧ 0 ≤ gc - (n2 : Int) ∧ gc - (n2 : Int) ≤ 64 := by omega
      have HBnd : Hid ((0 ≤ p + (gb - (n1 : Int)) ∧ p + (gb - (n1 : Int)) ≤ 64 * ((k + 1 : Nat) : Int)) ∧ (0 ≤ q + (gc - (n2 : Int)) ∧ q + (gc - (n2 : Int)) ≤ 64 * ((k + 1 : Nat) : Int))) := by show _ ∧ _; omega
      have HL1 := Lib.hid hl1
      have HL2 := Lib.hid hl2
      have HC1 := Lib.hid hc1
      have HC2 := Lib.hid hc2
      clear hl1 hl2 hc1 hc2
      clear hs ht hr' hxe hye hn1 hn2 ha1 ha2 ms mt os ot hfr hdrop hin hz hc hbl HR HS hp0 hp1 hq0 hq1 e5
      obtain ⟨W2, hW2⟩ : ∃ W, wr.alloc (.cells #[.bool false, .bool true] 4) = W := ⟨_, rfl⟩
      have HB2 : Hid (Below W0.heap.size W0 W2) := by rw [← hW2]; exact bl1 HB.out _
      have HS2 : Hid (W2.heap[wr.heap.size]? = some (.cells #[.bool false, .bool true] 4 (0, 0))) := by rw [← hW2]; exact heapNew wr _
      obtain ⟨z0, z1, z2⟩ := HK.out W2 HB2.out
      have k0 := cellOf (k := 0) HS2.out rfl
      go_wp2
      clear hW2
      refine wp_loop_rounds 3 ?_
      rw [rounds_succ]
      go_wp2_with fail
      clear z0 z1 z2 k0
      refine (HL1.out _ (blN HB0.out HB2.out)).mono ?_
      rintro e w3 ⟨rfl, hb3⟩
      have HB3 := Lib.hid (blN HB2.out hb3)
      have HS3 := Lib.hid (heapOld hb3 HS2.out)
      clear hb3
      obtain ⟨W4, hW4⟩ : ∃ W, w3.alloc (.cells #[.pointer (some ⟨B, 0, none⟩), .int .i64 a1, .string s, .int .i64 gb] 176) = W := ⟨_, rfl⟩
      have HB4 : Hid (Below W0.heap.size W0 W4) := by rw [← hW4]; exact bl1 HB3.out _
      have HC4 : Hid (W4.heap[w3.heap.size]? = some (.cells #[.pointer (some ⟨B, 0, none⟩), .int .i64 a1, .string s, .int .i64 gb] 176 (0, 0))) := by rw [← hW4]; exact heapNew w3 _
      have HS4 : Hid (W4.heap[wr.heap.size]? = some (.cells #[.bool false, .bool true] 4 (0, 0))) := by rw [← hW4]; exact heapOld (bl2 _) HS3.out
      have y2 := cellOf (k := 2) HC4.out rfl
      have y3 := cellOf (k := 3) HC4.out rfl
      go_wp2_with fail
      clear y2 y3 hW4
      refine (HC1.out _).mono ?_
      rintro e w5 ⟨rfl, hb5⟩
      have HB5 := Lib.hid (blN HB4.out hb5)
      have HC5 := Lib.hid (heapOld hb5 HC4.out)
      have HS5 := Lib.hid (heapOld hb5 HS4.out)
      clear hb5
      have y3 := cellOf (k := 3) HC5.out rfl
      go_wp2
      clear y3
      rw [rounds_succ]
      obtain ⟨z0, z1, z2⟩ := HK.out w5 HB5.out
      have k1 := cellOf (k := 1) HS5.out rfl
      go_wp2_with fail
      clear z0 z1 z2 k1
      refine (HL2.out _ (blN HB0.out HB5.out)).mono ?_
      rintro e w6 ⟨rfl, hb6⟩
      have HB6 := Lib.hid (blN HB5.out hb6)
      clear hb6
      obtain ⟨W7, hW7⟩ : ∃ W, w6.alloc (.cells #[.pointer (some ⟨B, 0, none⟩), .int .i64 a2, .string t, .int .i64 gc] 176) = W := ⟨_, rfl⟩
      have HB7 : Hid (Below W0.heap.size W0 W7) := by rw [← hW7]; exact bl1 HB6.out _
      have HC7 : Hid (W7.heap[w6.heap.size]? = some (.cells #[.pointer (some ⟨B, 0, none⟩), .int .i64 a2, .string t, .int .i64 gc] 176 (0, 0))) := by rw [← hW7]; exact heapNew w6 _
      have y2 := cellOf (k := 2) HC7.out rfl
      have y3 := cellOf (k := 3) HC7.out rfl
      go_wp2_with fail
      clear y2 y3 hW7
      refine (HC2.out _).mono ?_
      rintro e w8 ⟨rfl, hb8⟩
      have HB8 := Lib.hid (blN HB7.out hb8)
      have HC8 := Lib.hid (heapOld hb8 HC7.out)
      clear hb8
      have y3 := cellOf (k := 3) HC8.out rfl
      go_wp2
      clear y3
      rw [rounds_succ]
      go_wp2
      go_roundw
      case rel => exact ⟨HB8, k + 1, _, _, xr', yr', by omega, by go_num, rfl, rfl, HR2, HSum, HBnd.out⟩
      case measure => simp [intOf]; omega
    · obtain rfl : k = len := by omega
      have hr := HR.out
      rw [List.drop_of_length_le (by have := HN.out; omega)] at hr
      have h0 : ((0 : Int), (0 : Int)) = (xr, yr) := Option.some.inj hr
      have hs := HS.out
      have e1 : p = x := by have := (Prod.mk.inj h0).1; omega
      have e2 : q = y := by have := (Prod.mk.inj h0).2; omega
      subst e1
      subst e2
      clear hs h0 hr HS HR hp0 hp1 hq0 hq1
      go_wp2
      refine bodyPost_ret (v := .tuple #[.int .i64 p, .int .i64 q, .int .i64 0]) (by simp [results, Tryz.results30, go_sem]) rfl ?_
      exact ⟨rfl, blN HB0.out HB.out⟩
end
end Go.Proofs.YtgofmnhfajmbfaaGreatDoor

namespace Go.Proofs.YtgofmnhfajmbfaaGreatDoor
open Go Go.RowKit Txt Sp

/-- A row of texts of the call's own: where it stands. -/
theorem own_at {n : Nat} {w : World} {v : Value} {l : List ByteArray} (h : OwnTexts n w v l) (hp : 0 < l.length) :
    ∃ b cap o, v = .slice (some ⟨b, 0, none⟩) l.length cap ∧ n ≤ b ∧ b < w.heap.size ∧ w.heap[b]? = some o ∧ ∀ W : World, W.heap[b]? = some o → ∀ (j : Nat) (x : ByteArray), l[j]? = some x → W.cell? ⟨b, j, none⟩ = some (.string x) := by
  obtain ⟨e, h⟩ := h
  have h0 := h
  rcases h.2 with ⟨rfl, h1⟩ | ⟨g, cap, cur, rfl, hb, hh, hle, hm, hsz, hcur⟩
  · omega
  · refine ⟨g, cap, _, rfl, hb, (Array.getElem?_eq_some_iff.1 hh).1, hh, fun W hW j x hx => ?_⟩
    have hj := (List.getElem?_eq_some_iff.1 hx).1
    have hc := h0.cellAt j (by omega)
    have hw : W.cell? ⟨g, j, none⟩ = w.cell? ⟨g, j, none⟩ := by simp only [World.cell?, hW, hh]
    rw [hw, hc, List.getElem?_map, hx]
    rfl
theorem lay_step {F l : List ByteArray} {k : Nat} {x : ByteArray} (hx : F[k]? = some x) (hl : l.length = F.length) : (F.take k ++ l.drop k).set k x = F.take (k + 1) ++ l.drop (k + 1) := by
  have hk := (List.getElem?_eq_some_iff.1 hx).1
  have ht : (F.take k).length = k := by rw [List.length_take]; omega
  rw [List.set_append_right _ _ (by omega), ht, Nat.sub_self, List.take_succ_eq_append_getElem hk, (List.getElem?_eq_some_iff.1 hx).2, List.drop_eq_getElem_cons (by omega), List.set_cons_zero, List.append_assoc]
  rfl
theorem secs_size (g : Sp.Geom) {k : Nat} {x : ByteArray} (hx : (formatL g)[k]? = some x) : x.size = 64 := by
  have hk := (List.getElem?_eq_some_iff.1 hx).1
  rw [formatL_length] at hk
  rw [formatL_at g hk] at hx
  rw [← Option.some.inj hx]
  exact secAt_size g k
section
set_option maxHeartbeats 4000000
set_option maxRecDepth 20000 in
theorem alay_any {w : World} {base Bd : Nat} {d : Sp.Disk} {D : Nat → Prop} (h : DiskAt w base Bd d D) (hD : ∀ j, D j → j < w.heap.size) {g : Sp.Geom} (hg : g.ok) (hl : d.l.length = g.size.toNat) :
    Calls Tryz.prog 10 #[pt Bd, gV g] w fun e w' => e = .returned (.int .i64 0) ∧ DiskAt w' base Bd { d with l := formatL g } D ∧ ∃ K, (∀ j, K j → D j) ∧ Turn K w w' := by
  have hz := Geom.size_bd hg
  have hfm := fun W : World => aformat_any W g
  have hF : (formatL g).length = g.size.toNat := formatL_length g
  have hsz := fun (W : World) (hW : Below w.heap.size w W) => diskSize_any (h.below hW)
  have hlay := fun (W : World) (k : Nat) (x : ByteArray) (hx : (formatL g)[k]? = some x) (hd : DiskAt W base Bd { d with l := (formatL g).take k ++ d.l.drop k } D) => diskLay_any hd (k : Int) x
  have hone : ∀ (k : Nat) (x : ByteArray), (formatL g)[k]? = some x → Sp.Disk.layC { d with l := (formatL g).take k ++ d.l.drop k } (k : Int) x = 0 ∧ Sp.Disk.lay { d with l := (formatL g).take k ++ d.l.drop k } (k : Int) x = { d with l := (formatL g).take (k + 1) ++ d.l.drop (k + 1) } := fun k x hx => by
    have hk := (List.getElem?_eq_some_iff.1 hx).1
    have hc : Sp.Disk.layC { d with l := (formatL g).take k ++ d.l.drop k } (k : Int) x = 0 := by
      unfold Sp.Disk.layC
      rw [if_pos, if_pos (secs_size g hx)]
      refine ⟨by omega, ?_⟩
      show (k : Int) < (((formatL g).take k ++ d.l.drop k).length : Int)
      rw [List.length_append, List.length_take, List.length_drop]
      omega
    refine ⟨hc, ?_⟩
    unfold Sp.Disk.lay
    rw [if_pos hc, Int.toNat_natCast]
    dsimp only
    rw [lay_step hx (by rw [hl, hF])]
  have heq := eql_disk_nil
  have hdl : ∀ (W w' : World), DiskAt w' base Bd { d with l := (formatL g).take (formatL g).length ++ d.l.drop (formatL g).length } D → DiskAt w' base Bd { d with l := formatL g } D := fun W w' hh => by
    rw [List.take_length, List.drop_of_length_le (by rw [hl, hF]; exact Nat.le_refl _), List.append_nil] at hh
    exact hh
  unfold FormatPost at hfm
  rw [Geom.check_ok hg, if_pos hg] at hfm
  obtain ⟨F, hFd⟩ : ∃ F, formatL g = F := ⟨_, rfl⟩
  rw [hFd] at hfm hF hlay hone hdl ⊢
  have hpos : 0 < F.length := by omega
  have HD0 : Hid (DiskAt w base Bd d D) := h
  obtain ⟨ga, gb, gc⟩ := g
  unfold gV at hfm ⊢
  unfold pt at hsz hlay ⊢
  rw [hl, ← hF] at hsz
  obtain ⟨N, hN⟩ : ∃ N, F.length = N := ⟨_, rfl⟩
  rw [hN] at hsz hdl hpos
  have HN := Lib.hid hN
  have hnl : N ≤ 403 := by omega
  obtain ⟨W0, hW0⟩ : ∃ W, w.alloc (.cells #[.int .i64 ga, .int .i64 gb, .int .i64 gc] 23) = W := ⟨_, rfl⟩
  have hk := g_keep hW0
  have HB0 := Lib.hid hk.1
  have HK := Lib.hid hk.2
  clear hk
  have HFM := Lib.hid hfm
  have HSZ := Lib.hid hsz
  have HLAY := Lib.hid hlay
  have HONE := Lib.hid hone
  have HDL := Lib.hid hdl
  have HD := Lib.hid hD
  clear hfm hsz hlay hone hdl hD
  clear h hg hl hz hF hFd hN
  obtain ⟨z0, z1, z2⟩ := HK.out W0 (Below.refl _ _)
  go_enter Tryz.func10, Tryz.ntmps10
  go_wp2_with fail
  clear z0 z1 z2
  refine (HFM.out _).mono ?_
  rintro e w1 ⟨v, rfl, hv, hb1⟩
  have HB1 := Lib.hid (blN HB0.out hb1)
  have hge : w.heap.size ≤ W0.heap.size := HB0.out.size
  clear hb1
  obtain ⟨b, cap, o, rfl, hb2, hb3, ho, hcell⟩ := own_at hv (by have := HN.out; omega)
  rw [HN.out]
  have HO := Lib.hid ho
  have HCell := Lib.hid hcell
  have HND : Hid (¬ D b) := fun hd => by have := HD.out _ hd; omega
  clear hv ho hcell hge
  go_wp2_with fail
  refine (HSZ.out _ HB1.out).mono ?_
  rintro e w2 ⟨rfl, hw2⟩
  subst hw2
  go_wp2
  go_loopw [28] (fun i wr => ∃ k : Nat, k ≤ N ∧ i = .int .i64 (k : Int) ∧ Hid (DiskAt wr base Bd { d with l := F.take k ++ d.l.drop k } D) ∧ Hid (∃ K, (∀ j, K j → D j) ∧ Turn K w2 wr)) (fun i _ => N - (intOf i).toNat)
  case atStart => exact ⟨0, Nat.zero_le _, rfl, HD0.out.below HB1.out, ⟨fun _ => False, fun _ h => h.elim, Turn.refl _ _⟩⟩
  case round =>
    obtain ⟨k, hk, rfl, HDk, HTk⟩ := hrel
    by_cases hlt : k < N
    · obtain ⟨x, hx⟩ : ∃ x, F[k]? = some x := ⟨_, List.getElem?_eq_getElem (by have := HN.out; omega)⟩
      have hwo : wr.heap[b]? = some o := by
        obtain ⟨K, hK, hT⟩ := HTk.out
        exact hT.heap HO.out (fun h => HND.out (hK _ h))
      have c0 := HCell.out wr hwo k x hx
      have hl := HLAY.out wr k x hx HDk.out
      have h1 := HONE.out k x hx
      rw [h1.1, h1.2] at hl
      have HL := Lib.hid hl
      clear hl h1 hwo hx
      go_wp2_with fail
      refine HL.out.mono ?_
      rintro e w4 ⟨rfl, hd4, K4, hK4, _, hT4⟩
      have HD4 := Lib.hid hd4
      have HT4 : Hid (∃ K, (∀ j, K j → D j) ∧ Turn K w2 w4) := by
        obtain ⟨K, hK, hT⟩ := HTk.out
        exact ⟨fun j => K j ∨ K4 j, fun j hj => hj.elim (hK j) (hK4 j), hT.trans hT4 (fun _ _ h => Or.inl h) (fun _ _ h => Or.inr h)⟩
      clear hd4 hK4 hT4
      go_wp2
      go_roundw
      case rel => exact ⟨k + 1, by omega, by go_num, HD4, HT4⟩
      case measure => simp [intOf]; omega
    · obtain rfl : k = N := by omega
      have HEnd : Hid (DiskAt wr base Bd { d with l := F } D ∧ ∃ K, (∀ j, K j → D j) ∧ Turn K w wr) := by
        obtain ⟨K, hK, hT⟩ := HTk.out
        exact ⟨HDL.out w wr HDk.out, K, hK, (Turn.of_below (K := K) HB1.out).trans hT (fun _ _ h => h) (fun _ _ h => h)⟩
      go_wp2
      go_ret
      exact ⟨rfl, HEnd.out⟩
end
end Go.Proofs.YtgofmnhfajmbfaaGreatDoor
