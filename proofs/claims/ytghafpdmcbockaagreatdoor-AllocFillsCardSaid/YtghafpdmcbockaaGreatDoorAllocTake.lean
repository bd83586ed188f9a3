/-
  Walks of layer 15: set, take.
-/
import Derived.Test.YtghafpdmcbockaaGreatDoorAllocLook
namespace Go.Proofs.YtghafpdmcbockaaGreatDoor
open Go Go.RowKit Txt Sp

/-- Behind a call the side is S'; nothing but its blocks turned. -/
def SideTo (w : World) (base B Bd : Nat) (S' : Sp.Side) (D : Nat → Prop) (w' : World) : Prop :=
  SideAt w' base B Bd S' (fun j => D j ∨ (w.heap.size ≤ j ∧ j < w'.heap.size)) ∧ ∃ K, (∀ j, K j → D j) ∧ Turn K w w'
theorem SideTo.none {w w' : World} {base B Bd : Nat} {S : Sp.Side} {D : Nat → Prop} (h : SideAt w base B Bd S D) (hb : Below w.heap.size w w') : SideTo w base B Bd S D w' :=
  ⟨(h.below hb).mono (fun _ h => Or.inl h), fun _ => False, fun _ h => h.elim, Turn.of_below hb⟩
theorem SideTo.ahead {w w1 w' : World} {base B Bd : Nat} {S' : Sp.Side} {D : Nat → Prop} (hb : Below w.heap.size w w1) (h : SideTo w1 base B Bd S' D w') : SideTo w base B Bd S' D w' := by
  obtain ⟨hs, K, hK, hT⟩ := h
  have := hb.size
  exact ⟨hs.mono (fun k hk => hk.imp_right fun h => ⟨by omega, h.2⟩), K, hK, (Turn.of_below (K := K) hb).trans hT (fun _ _ h => h) (fun _ _ h => h)⟩
theorem SideTo.behind {w w1 w' : World} {base B Bd : Nat} {S' : Sp.Side} {D : Nat → Prop} (h : SideTo w base B Bd S' D w1) (hb : Below w1.heap.size w1 w') : SideTo w base B Bd S' D w' := by
  obtain ⟨hs, K, hK, hT⟩ := h
  have := hb.size
  exact ⟨(hs.below hb).mono (fun k hk => hk.imp_right fun h => ⟨h.1, by omega⟩), K, hK, hT.trans (Turn.of_below (K := K) hb) (fun _ _ h => h) (fun _ _ h => h)⟩
theorem ChangePost.to {w w' : World} {base B Bd : Nat} {S : Sp.Side} {D : Nat → Prop} {i off : Int} {b : ByteArray} {ahead : List Int} {e : Ending} (h : ChangePost w base B Bd S D i off b ahead e w') :
    e = .returned (.tuple #[.int .i64 (S.changeN i off b ahead), .int .i64 (S.changeC i off b ahead)]) ∧ SideTo w base B Bd (S.change i off b ahead) D w' := h
section
set_option maxHeartbeats 4000000
set_option maxRecDepth 20000 in
theorem aset_any {w : World} {base B Bd : Nat} {S : Sp.Side} {D : Nat → Prop} (h : SideAt w base B Bd S D) (hS : S.Ok) (hlast : S.deps.last < 1000000000) (a : Int) (t : ByteArray) (n p : Int) (b : Bool) (hp : manyC n p = 0) (v : Value) (ahead : List Int) (hv : Ints w v ahead) (hal : ahead.length ≤ 100000) :
    Calls Tryz.prog 90 #[.agg #[pt B, .int .i64 a, .string t, .int .i64 n], .int .i64 p, .bool b, v] w fun e w' =>
      e = .returned (.tuple #[.int .i64 (S.changeN a p (if b then oneB else zeroB) ahead), .int .i64 (S.changeC a p (if b then oneB else zeroB) ahead)]) ∧ SideTo w base B Bd (S.change a p (if b then oneB else zeroB) ahead) D w' := by
  have hm := fun W : World => mset_any W n p b hp
  obtain ⟨x, hx⟩ : ∃ x, (if b then oneB else zeroB) = x := ⟨_, rfl⟩
  rw [hx] at hm ⊢
  have hc := fun (W : World) (hW : Below w.heap.size w W) => softChange_any (h.below hW) hS hlast a p x v ahead (hv.below hW) hal
  have hfin : ∀ (W : World) (e : Ending) (w' : World), Below w.heap.size w W → ChangePost W base B Bd S D a p x ahead e w' → e = .returned (.tuple #[.int .i64 (S.changeN a p x ahead), .int .i64 (S.changeC a p x ahead)]) ∧ SideTo w base B Bd (S.change a p x ahead) D w' := fun W e w' hb hA => ⟨hA.1, hA.to.2.ahead hb⟩
  obtain ⟨Q, hQ⟩ : ∃ Q : Ending → World → Prop, (fun e w' => e = .returned (.tuple #[.int .i64 (S.changeN a p x ahead), .int .i64 (S.changeC a p x ahead)]) ∧ SideTo w base B Bd (S.change a p x ahead) D w') = Q := ⟨_, rfl⟩
  have hfin2 : ∀ (W : World) (e : Ending) (w' : World), Below w.heap.size w W → ChangePost W base B Bd S D a p x ahead e w' → Q e w' := by rw [← hQ]; exact hfin
  rw [hQ]
  unfold pt at hc ⊢
  obtain ⟨W0, hW0⟩ : ∃ W, w.alloc (.cells #[.pointer (some ⟨B, 0, none⟩), .int .i64 a, .string t, .int .i64 n] 81) = W := ⟨_, rfl⟩
  have HB0 : Hid (Below w.heap.size w W0) := by rw [← hW0]; exact bl2 _
  have HC0 : Hid (W0.heap[w.heap.size]? = some (.cells #[.pointer (some ⟨B, 0, none⟩), .int .i64 a, .string t, .int .i64 n] 81 (0, 0))) := by rw [← hW0]; exact heapNew w _
  have y3 := cellOf (k := 3) HC0.out rfl
  have HM := Lib.hid hm
  have HC := Lib.hid hc
  have HFIN2 := Lib.hid hfin2
  clear hm hc hfin2
  clear hfin hQ hx h hS hlast hv hal hp
  go_enter Tryz.func90, Tryz.ntmps90
  go_wp2_with fail
  clear y3 hW0
  refine (HM.out _).mono ?_
  rintro e w1 ⟨rfl, hb1⟩
  have HB1 := Lib.hid (blN HB0.out hb1)
  have HC1 := Lib.hid (heapOld hb1 HC0.out)
  clear hb1
  obtain ⟨W2, hW2⟩ : ∃ W, w1.alloc (.cells #[.int .i64 p, .string x] 172) = W := ⟨_, rfl⟩
  have HB2 : Hid (Below w.heap.size w W2) := by rw [← hW2]; exact bl1 HB1.out _
  have HC2 : Hid (W2.heap[w.heap.size]? = some (.cells #[.pointer (some ⟨B, 0, none⟩), .int .i64 a, .string t, .int .i64 n] 81 (0, 0))) := by rw [← hW2]; exact heapOld (bl2 _) HC1.out
  have HP2 : Hid (W2.heap[w1.heap.size]? = some (.cells #[.int .i64 p, .string x] 172 (0, 0))) := by rw [← hW2]; exact heapNew w1 _
  have y0 := cellOf (k := 0) HC2.out rfl
  have y1 := cellOf (k := 1) HC2.out rfl
  have x0 := cellOf (k := 0) HP2.out rfl
  have x1 := cellOf (k := 1) HP2.out rfl
  go_wp2_with fail
  clear y0 y1 x0 x1 hW2
  refine (HC.out _ HB2.out).mono ?_
  rintro e w3 hA
  have HF := Lib.hid (HFIN2.out _ _ _ HB2.out hA)
  obtain ⟨he, -⟩ := hA
  subst he
  go_wp2
  first | exact HF.out | (go_ret2; exact HF.out)
/-- What take leaves. -/
def TakePost (w : World) (base B Bd : Nat) (D : Nat → Prop) (T : Sp.Side × Took) (e : Ending) (w' : World) : Prop :=
  e = .returned (.tuple #[.int .i64 T.2.group, .int .i64 T.2.place, .int .i64 T.2.change, .int .i64 T.2.code]) ∧ SideTo w base B Bd T.1 D w'
set_option maxRecDepth 20000 in
theorem atake_any {w : World} {base B Bd : Nat} {S : Sp.Side} {D : Nat → Prop} (h : SideAt w base B Bd S D) (hS : S.Ok) (hlast : S.deps.last < 1000000000) {g : Sp.Geom} (hg : g.ok) (b : Bool) (v : Value) (ks : List Int) (hv : Ints w v ks) (hks : ∀ k ∈ ks, 0 ≤ k ∧ k < g.groups) :
    Calls Tryz.prog 36 #[pt B, gV g, .bool b, v] w (TakePost w base B Bd D (S.takeL g b ks)) := by
  have hw := fun (W : World) (hW : Below w.heap.size w W) => awrong_any W B g hg v ks (hv.below hW) hks
  obtain ⟨ad, len, cap, rfl, HN, hn2, HF⟩ := RowAt.facts hv
  have hlook := fun (W : World) (hW : Below w.heap.size w W) (k : Int) (hk : 0 ≤ k ∧ k < g.groups) => alook_any (h.below hW) hS hg hk b
  have hset := fun (W : World) (hW : Below w.heap.size w W) (k : Int) (t : ByteArray) (p : Int) (hp : manyC (manyG g b) p = 0) => aset_any (h.below hW) hS hlast (mapAtG g k b) t (manyG g b) p true hp (.slice none 0 0) [] (RowAt.void _ 1) (by simp)
  have hfind := fun (W : World) (t : ByteArray) (ht : mapC t (manyG g b) = 0) => mfind_any W t (manyG g b) ht
  have hls := fun (k : Int) (t : ByteArray) (ht : S.look g k b = some t) => (look_some ht).2.2
  -- the ends
  have hnone : ∀ (r : List Int) (k : Int) (w' : World), S.takeL g b ks = S.takeL g b (k :: r) → S.look g k b = none → Below w.heap.size w w' → TakePost w base B Bd D (S.takeL g b ks) (.returned (.tuple #[.int .i64 0, .int .i64 0, .int .i64 0, .int .i64 180])) w' := fun r k w' he hl hb => by
    rw [he]
    unfold Side.takeL
    rw [hl]
    exact ⟨rfl, SideTo.none h hb⟩
  have hend : ∀ w' : World, S.takeL g b ks = S.takeL g b [] → Below w.heap.size w w' → TakePost w base B Bd D (S.takeL g b ks) (.returned (.tuple #[.int .i64 0, .int .i64 0, .int .i64 0, .int .i64 109])) w' := fun w' he hb => by
    rw [he]
    exact ⟨rfl, SideTo.none h hb⟩
  have hstep : ∀ (r : List Int) (k : Int) (t : ByteArray), S.look g k b = some t → freeP t (manyG g b).toNat = none → S.takeL g b (k :: r) = S.takeL g b r := fun r k t hl hf => by
    conv => lhs; unfold Side.takeL
    rw [hl]
    dsimp only
    rw [hf]
  have htook : ∀ (r : List Int) (k : Int) (t : ByteArray) (p : Nat) (W w' : World), S.takeL g b ks = S.takeL g b (k :: r) → S.look g k b = some t → freeP t (manyG g b).toNat = some p → Below w.heap.size w W → SideTo W base B Bd (S.change (mapAtG g k b) p oneB []) D w' →
      TakePost w base B Bd D (S.takeL g b ks) (.returned (.tuple #[.int .i64 k, .int .i64 (p : Int), .int .i64 (S.changeN (mapAtG g k b) p oneB []), .int .i64 (S.changeC (mapAtG g k b) p oneB [])])) w' := fun r k t p W w' he hl hf hb hs => by
    rw [he]
    unfold Side.takeL
    rw [hl]
    dsimp only
    rw [hf]
    exact ⟨rfl, hs.ahead hb⟩
  have hfm : ∀ (t : ByteArray) (p : Nat), mapC t (manyG g b) = 0 → freeP t (manyG g b).toNat = some p → manyC (manyG g b) p = 0 := fun t p ht hf => by
    have h1 := mapC_size ht
    have h2 := (freeP_some hf).1
    unfold manyC
    rw [if_neg (by omega)]
  obtain ⟨n, hn⟩ : ∃ n, manyG g b = n := ⟨_, rfl⟩
  obtain ⟨Q, hQ⟩ : ∃ Q, TakePost w base B Bd D (S.takeL g b ks) = Q := ⟨_, rfl⟩
  rw [hQ] at hnone hend htook ⊢
  unfold LookPost chartV at hlook
  rw [hn] at hlook hset hfind hls hstep htook hfm
  simp only [if_true] at hset
  obtain ⟨ga, gb, gc⟩ := g
  simp only at hlook hks
  unfold gV at hw hlook ⊢
  unfold pt at hw hlook hset ⊢
  obtain ⟨W0, hW0⟩ : ∃ W, w.alloc (.cells #[.int .i64 ga, .int .i64 gb, .int .i64 gc] 23) = W := ⟨_, rfl⟩
  have hk := g_keep hW0
  have HB0 := Lib.hid hk.1
  have HK := Lib.hid hk.2
  clear hk
  have hw0 := hw W0 HB0.out
  have HW0 := Lib.hid hw0
  have HLOOK := Lib.hid hlook
  have HSET := Lib.hid hset
  have HFIND := Lib.hid hfind
  have HLS := Lib.hid hls
  have HNONE := Lib.hid hnone
  have HEND := Lib.hid hend
  have HSTEP := Lib.hid hstep
  have HTOOK := Lib.hid htook
  have HFM := Lib.hid hfm
  have HKS := Lib.hid hks
  clear hw0 hlook hset hfind hls hnone hend hstep htook hfm hks
  clear hw h hS hlast hg hv hn hQ
  obtain ⟨z0, z1, z2⟩ := HK.out W0 (Below.refl _ _)
  go_enter Tryz.func36, Tryz.ntmps36
  go_wp2_with fail
  clear z0 z1 z2
  refine HW0.out.mono ?_
  rintro e w1 ⟨rfl, hb1⟩
  have HB1 := Lib.hid hb1
  clear hb1
  go_wp2
  go_loopw [26] (fun i wr => Hid (Below W0.heap.size W0 wr) ∧ ∃ k : Nat, k ≤ len ∧ i = .int .i64 (k : Int) ∧ Hid (S.takeL ⟨ga, gb, gc⟩ b ks = S.takeL ⟨ga, gb, gc⟩ b (ks.drop k))) (fun i _ => len - (intOf i).toNat)
  case atStart => exact ⟨HB1, 0, Nat.zero_le _, rfl, rfl⟩
  case round =>
    obtain ⟨HB, k, hk, rfl, HE⟩ := hrel
    by_cases hlt : k < len
    · obtain ⟨bl, o, x, rfl, hbl, hx, hc⟩ := HF.out k hlt
      have c0 : wr.cell? ⟨bl, o + k, none⟩ = some (.int .i64 x) := by
        have h := ((blN HB0.out HB.out).cell (p := ⟨bl, o + k * 1 + 0, none⟩) hbl).trans (hc 0 _ rfl)
        simpa using h
      have hin := HKS.out x (List.mem_of_getElem? hx)
      have hdrop : ks.drop k = x :: ks.drop (k + 1) := by
        have hl := (List.getElem?_eq_some_iff.1 hx)
        rw [List.drop_eq_getElem_cons hl.1, hl.2]
      have HED : Hid (S.takeL ⟨ga, gb, gc⟩ b ks = S.takeL ⟨ga, gb, gc⟩ b (x :: ks.drop (k + 1))) := HE.out.trans (congrArg _ hdrop)
      clear hdrop hc hx hbl
      have hlk := HLOOK.out wr (blN HB0.out HB.out) x hin
      clear hin
      obtain ⟨z0, z1, z2⟩ := HK.out wr HB.out
      cases hl : S.look ⟨ga, gb, gc⟩ x b with
      | none =>
        rw [hl] at hlk
        dsimp only at hlk
        have HEnd := Lib.hid (fun w' hb => HNONE.out _ x w' HED.out hl hb)
        have HLK := Lib.hid hlk
        clear hlk hl
        go_wp2_with fail
        clear z0 z1 z2
        refine HLK.out.mono ?_
        rintro e w2 ⟨rfl, hb2⟩
        have HB2 := Lib.hid (blN HB.out hb2)
        clear hb2
        go_wp2
        refine bodyPost_ret (v := .tuple #[.int .i64 0, .int .i64 0, .int .i64 0, .int .i64 180]) (by simp [results, Tryz.results36, go_sem]) rfl ?_
        exact HEnd.out _ (bl1 (blN HB0.out HB2.out) _)
      | some t =>
        rw [hl] at hlk
        dsimp only at hlk
        have hmc := HLS.out x t hl
        have hfd := fun W => HFIND.out W t hmc
        cases hf : freeP t n.toNat with
        | none =>
          rw [hf] at hfd
          dsimp only at hfd
          have HNext : Hid (S.takeL ⟨ga, gb, gc⟩ b ks = S.takeL ⟨ga, gb, gc⟩ b (ks.drop (k + 1))) := HED.out.trans (HSTEP.out _ x t hl hf)
          have HLK := Lib.hid hlk
          have HFD := Lib.hid hfd
          clear hlk hl hfd hf hmc
          go_wp2_with fail
          clear z0 z1 z2
          refine HLK.out.mono ?_
          rintro e w2 ⟨rfl, hb2⟩
          have HB2 := Lib.hid (blN HB.out hb2)
          clear hb2
          obtain ⟨W3, hW3⟩ : ∃ W, w2.alloc (.cells #[.pointer (some ⟨B, 0, none⟩), .int .i64 (mapAtG ⟨ga, gb, gc⟩ x b), .string t, .int .i64 n] 81) = W := ⟨_, rfl⟩
          have HB3 : Hid (Below W0.heap.size W0 W3) := by rw [← hW3]; exact bl1 HB2.out _
          have HC3 : Hid (W3.heap[w2.heap.size]? = some (.cells #[.pointer (some ⟨B, 0, none⟩), .int .i64 (mapAtG ⟨ga, gb, gc⟩ x b), .string t, .int .i64 n] 81 (0, 0))) := by rw [← hW3]; exact heapNew w2 _
          have y2 := cellOf (k := 2) HC3.out rfl
          have y3 := cellOf (k := 3) HC3.out rfl
          go_wp2_with fail
          clear y2 y3 hW3
          refine (HFD.out _).mono ?_
          rintro e w4 ⟨rfl, hb4⟩
          have HB4 := Lib.hid (blN HB3.out hb4)
          clear hb4
          go_wp2
          go_roundw
          case rel => exact ⟨HB4, k + 1, by omega, by go_num, HNext⟩
          case measure => simp [intOf]; omega
        | some p =>
          rw [hf] at hfd
          dsimp only at hfd
          have hst := fun (W : World) (hW : Below w.heap.size w W) => HSET.out W hW x t p (HFM.out t p hmc hf)
          have HEnd := Lib.hid (fun W w' hb hs => HTOOK.out _ x t p W w' HED.out hl hf hb hs)
          have HLK := Lib.hid hlk
          have HFD := Lib.hid hfd
          have HST := Lib.hid hst
          clear hlk hl hfd hf hmc hst
          obtain ⟨a, ha⟩ : ∃ a, mapAtG ⟨ga, gb, gc⟩ x b = a := ⟨_, rfl⟩
          rw [ha] at HLK HEnd HST
          clear ha
          go_wp2_with fail
          clear z0 z1 z2
          refine HLK.out.mono ?_
          rintro e w2 ⟨rfl, hb2⟩
          have HB2 := Lib.hid (blN HB.out hb2)
          clear hb2
          obtain ⟨W3, hW3⟩ : ∃ W, w2.alloc (.cells #[.pointer (some ⟨B, 0, none⟩), .int .i64 a, .string t, .int .i64 n] 81) = W := ⟨_, rfl⟩
          have HB3 : Hid (Below W0.heap.size W0 W3) := by rw [← hW3]; exact bl1 HB2.out _
          have HC3 : Hid (W3.heap[w2.heap.size]? = some (.cells #[.pointer (some ⟨B, 0, none⟩), .int .i64 a, .string t, .int .i64 n] 81 (0, 0))) := by rw [← hW3]; exact heapNew w2 _
          have y2 := cellOf (k := 2) HC3.out rfl
          have y3 := cellOf (k := 3) HC3.out rfl
          go_wp2_with fail
          clear y2 y3 hW3
          refine (HFD.out _).mono ?_
          rintro e w4 ⟨rfl, hb4⟩
          have HB4 := Lib.hid (blN HB3.out hb4)
          have HC4 := Lib.hid (heapOld hb4 HC3.out)
          clear hb4
          have y0 := cellOf (k := 0) HC4.out rfl
          have y1 := cellOf (k := 1) HC4.out rfl
          have y2 := cellOf (k := 2) HC4.out rfl
          have y3 := cellOf (k := 3) HC4.out rfl
          go_wp2_with fail
          clear y0 y1 y2 y3
          refine (HST.out _ (blN HB0.out HB4.out)).mono ?_
          rintro e w5 ⟨rfl, hs5⟩
          have HF5 := Lib.hid (HEnd.out _ _ (blN HB0.out HB4.out) hs5)
          clear hs5
          go_wp2
          refine bodyPost_ret (v := .tuple #[.int .i64 x, .int .i64 (p : Int), .int .i64 (S.changeN a p oneB []), .int .i64 (S.changeC a p oneB [])]) (by simp [results, Tryz.results36, go_sem]) rfl ?_
          exact HF5.out
    · obtain rfl : k = len := by omega
      have HEnd := Lib.hid (fun w' hb => HEND.out w' (HE.out.trans (congrArg _ (List.drop_of_length_le (by have := HN.out; omega)))) hb)
      go_wp2
      refine bodyPost_ret (v := .tuple #[.int .i64 0, .int .i64 0, .int .i64 0, .int .i64 109]) (by simp [results, Tryz.results36, go_sem]) rfl ?_
      exact HEnd.out _ (blN HB0.out HB.out)
end
end Go.Proofs.YtghafpdmcbockaaGreatDoor
