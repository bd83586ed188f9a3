/-
  Walks of layer 15: Free (where each map is one), Lay.
-/
import Derived.Test.YtghafpdmcbockaaGreatDoorAllocFree
namespace Go.Proofs.YtghafpdmcbockaaGreatDoor
open Go Go.RowKit Txt Sp

theorem onesN_le {s : ByteArray} {n : Int} (h : mapC s n = 0) : (onesN s : Int) ≤ n ∧ n ≤ 64 := by
  have h1 := mapC_size h
  rw [onesN_bits h]
  have := List.countP_le_length (p := fun p => bitAt s p == 1) (l := List.range n.toNat)
  rw [List.length_range] at this
  omega
theorem freeL_cons {S : Sp.Side} {g : Sp.Geom} {k : Int} {r : List Int} {x y : Int} (h : S.freeL g (k :: r) = some (x, y)) :
    ∃ s t x' y', S.look g k false = some s ∧ S.look g k true = some t ∧ S.freeL g r = some (x', y') ∧ x = g.inodes - onesN s + x' ∧ y = g.blocks - onesN t + y' := by
  unfold Side.freeL at h
  cases h1 : S.look g k false with
  | none => rw [h1] at h; cases h
  | some s =>
    cases h2 : S.look g k true with
    | none => rw [h1, h2] at h; cases h
    | some t =>
      cases h3 : S.freeL g r with
      | none => rw [h1, h2, h3] at h; cases h
      | some p =>
        obtain ⟨x', y'⟩ := p
        rw [h1, h2, h3] at h
        simp only [Option.some.injEq, Prod.mk.injEq] at h
        exact ⟨s, t, x', y', rfl, rfl, rfl, h.1.symm, h.2.symm⟩
section
set_option maxHeartbeats 8000000
set_option maxRecDepth 20000 in
theorem afree_any {w : World} {base B Bd : Nat} {S : Sp.Side} {D : Nat → Prop} (h : SideAt w base B Bd S D) (hS : S.Ok) {g : Sp.Geom} (hg : g.ok) (v : Value) (ks : List Int) (hv : Ints w v ks) (hks : ∀ k ∈ ks, 0 ≤ k ∧ k < g.groups) {x y : Int} (hx : S.freeL g ks = some (x, y)) (hlen : ks.length ≤ 1000000) :
    Calls Tryz.prog 18 #[pt B, gV g, v] w fun e w' => e = .returned (.tuple #[.int .i64 x, .int .i64 y, .int .i64 0]) ∧ Below w.heap.size w w' := by
  have hw := fun (W : World) (hW : Below w.heap.size w W) => awrong_any W B g hg v ks (hv.below hW) hks
  obtain ⟨ad, len, cap, rfl, HN, hn2, HF⟩ := RowAt.facts hv
  have hlen2 : len ≤ 1000000 := by have := HN.out; omega
  have hlook := fun (W : World) (hW : Below w.heap.size w W) (k : Int) (hk : 0 ≤ k ∧ k < g.groups) (b : Bool) => alook_any (h.below hW) hS hg hk b
  have hls := fun (k : Int) (b : Bool) (t : ByteArray) (ht : S.look g k b = some t) => (look_some ht).2.2
  have hcnt := fun (W : World) (t : ByteArray) (n : Int) (ht : mapC t n = 0) => mcount_any W t n ht
  obtain ⟨ga, gb, gc⟩ := g
  unfold manyG at hls
  unfold LookPost chartV manyG at hlook
  simp only at hks hlook hls
  unfold gV at hw hlook ⊢
  unfold pt at hw hlook ⊢
  obtain ⟨W0, hW0⟩ : ∃ W, w.alloc (.cells #[.int .i64 ga, .int .i64 gb, .int .i64 gc] 23) = W := ⟨_, rfl⟩
  have hk := g_keep hW0
  have HB0 := Lib.hid hk.1
  have HK := Lib.hid hk.2
  clear hk
  have hw0 := hw W0 HB0.out
  have HW0 := Lib.hid hw0
  have HLOOK := Lib.hid hlook
  have HCNT := Lib.hid hcnt
  have HLS := Lib.hid hls
  have HKS := Lib.hid hks
  have HX := Lib.hid hx
  clear hw0 hlook hcnt hls hks hx
  clear hw h hS hg hv hlen
  obtain ⟨z0, z1, z2⟩ := HK.out W0 (Below.refl _ _)
  go_enter Tryz.func18, Tryz.ntmps18
  go_wp2_with fail
  clear z0 z1 z2
  refine HW0.out.mono ?_
  rintro e w1 ⟨rfl, hb1⟩
  have HB1 := Lib.hid hb1
  clear hb1
  go_wp2
  go_loopw [6, 7, 27] (fun i6 i7 i wr => Hid (Below W0.heap.size W0 wr) ∧ ∃ (k : Nat) (p q xr yr : Int), k ≤ len ∧ i = .int .i64 (k : Int) ∧ i6 = .int .i64 p ∧ i7 = .int .i64 q ∧ Hid (S.freeL ⟨ga, gb, gc⟩ (ks.drop k) = some (xr, yr)) ∧ Hid (x = p + xr ∧ y = q + yr) ∧ (0 ≤ p ∧ p ≤ 64 * k) ∧ (0 ≤ q ∧ q ≤ 64 * k)) (fun _ _ i _ => len - (intOf i).toNat)
  case atStart => exact ⟨HB1, 0, 0, 0, x, y, Nat.zero_le _, rfl, rfl, rfl, HX, ⟨(Int.zero_add _).symm, (Int.zero_add _).symm⟩, ⟨by omega, by omega⟩, by omega, by omega⟩
  case round =>
    obtain ⟨HB, k, p, q, xr, yr, hk, rfl, rfl, rfl, HR, HS, ⟨hp0, hp1⟩, hq0, hq1⟩ := hrel
    by_cases hlt : k < len
    · obtain ⟨bl, o, z, rfl, hbl, hz, hc⟩ := HF.out k hlt
      have c0 : wr.cell? ⟨bl, o + k, none⟩ = some (.int .i64 z) := by
        have h := ((blN HB0.out HB.out).cell (p := ⟨bl, o + k * 1 + 0, none⟩) hbl).trans (hc 0 _ rfl)
        simpa using h
      have hin := HKS.out z (List.mem_of_getElem? hz)
      have hdrop : ks.drop k = z :: ks.drop (k + 1) := by
        have hl := (List.getElem?_eq_some_iff.1 hz)
        rw [List.drop_eq_getElem_cons hl.1, hl.2]
      have hfr := HR.out
      rw [hdrop] at hfr
      obtain ⟨s, t, xr', yr', hs, ht, hr', hxe, hye⟩ := freeL_cons hfr
      have ms := HLS.out z false s hs
      have mt := HLS.out z true t ht
      have os := onesN_le ms
      have ot := onesN_le mt
      have hl1 := fun W hW => HLOOK.out W hW z hin false
      have hl2 := fun W hW => HLOOK.out W hW z hin true
      rw [hs] at hl1
      rw [ht] at hl2
      dsimp only at hl1 hl2
      have hc1 := fun W => HCNT.out W s _ ms
      have hc2 := fun W => HCNT.out W t _ mt
      simp only [if_true, Bool.false_eq_true, if_false] at hl1 hl2 hc1 hc2 ms mt os ot
      obtain ⟨n1, hn1⟩ : ∃ n : Nat, onesN s = n := ⟨_, rfl⟩
      obtain ⟨n2, hn2⟩ : ∃ n : Nat, onesN t = n := ⟨_, rfl⟩
      obtain ⟨a1, ha1⟩ : ∃ a, mapAtG ⟨ga, gb, gc⟩ z false = a := ⟨_, rfl⟩
      obtain ⟨a2, ha2⟩ : ∃ a, mapAtG ⟨ga, gb, gc⟩ z true = a := ⟨_, rfl⟩
      rw [hn1] at hc1 os hxe
      rw [hn2] at hc2 ot hye
      rw [ha1] at hl1
      rw [ha2] at hl2
      have hxe : xr = gb - n1 + xr' := hxe
      have hye : yr = gc - n2 + yr' := hye
      have HSum : Hid (x = (p + (gb - n1)) + xr' ∧ y = (q + (gc - n2)) + yr') := by have := HS.out; show _ ∧ _; omega
      have HR2 := Lib.hid hr'
      have e1 : IntKind.i64.wrap (gb - (n1 : Int)) = gb - n1 := IntWalk.i64_in _ (by omega)
      have e2 : IntKind.i64.wrap (p + (gb - (n1 : Int))) = p + (gb - n1) := IntWalk.i64_in _ (by omega)
      have e3 : IntKind.i64.wrap (gc - (n2 : Int)) = gc - n2 := IntWalk.i64_in _ (by omega)
      have e4 : IntKind.i64.wrap (q + (gc - (n2 : Int))) = q + (gc - n2) := IntWalk.i64_in _ (by omega)
      have e5 : 0 ≤ gb - (n1 : Int) ∧ gb - (n1 : Int) ≤ 64 ∧ 0 ≤ gc - (n2 : Int) ∧ gc - (n2 : Int) ≤ 64 := by omega
      have HBnd : Hid ((0 ≤ p + (gb - (n1 : Int)) ∧ p + (gb - (n1 : Int)) ≤ 64 * ((k + 1 : Nat) : Int)) ∧ (0 ≤ q + (gc - (n2 : Int)) ∧ q + (gc - (n2 : Int)) ≤ 64 * ((k + 1 : Nat) : Int))) := by show _ ∧ _; omega
      have HL1 := Lib.hid hl1
      have HL2 := Lib.hid hl2
      have HC1 := Lib.hid hc1
      have HC2 := Lib.hid hc2
      clear hl1 hl2 hc1 hc2
      clear hs ht hr' hxe hye hn1 hn2 ha1 ha2 ms mt os ot hfr hdrop hin hz hc hbl HR HS hp0 hp1 hq0 hq1 e5
      obtain ⟨W2, hW2⟩ : ∃ W, wr.alloc (.cells #[.bool false, .bool true] 4) = W := ⟨_, rfl⟩
      have HB2 : Hid (Below W0.heap.size W0 W2) := by rw [← hW2]; exact bl1 HB.out _
      have HS2 : Hid (W2.heap[wr.heap.size]? = some (.cells #[.bool false, .bool true] 4 (0, 0))) := by rw [← hW2]; exact heapNew wr _
      obtain ⟨z0, z1, z2⟩ := HK.out W2 HB2.out
      have k0 := cellOf (k := 0) HS2.out rfl
      go_wp2
      clear hW2
      refine wp_loop_rounds 3 ?_
      rw [rounds_succ]
      go_wp2_with fail
      clear z0 z1 z2 k0
      refine (HL1.out _ (blN HB0.out HB2.out)).mono ?_
      rintro e w3 ⟨rfl, hb3⟩
      have HB3 := Lib.hid (blN HB2.out hb3)
      have HS3 := Lib.hid (heapOld hb3 HS2.out)
      clear hb3
      obtain ⟨W4, hW4⟩ : ∃ W, w3.alloc (.cells #[.pointer (some ⟨B, 0, none⟩), .int .i64 a1, .string s, .int .i64 gb] 81) = W := ⟨_, rfl⟩
      have HB4 : Hid (Below W0.heap.size W0 W4) := by rw [← hW4]; exact bl1 HB3.out _
      have HC4 : Hid (W4.heap[w3.heap.size]? = some (.cells #[.pointer (some ⟨B, 0, none⟩), .int .i64 a1, .string s, .int .i64 gb] 81 (0, 0))) := by rw [← hW4]; exact heapNew w3 _
      have HS4 : Hid (W4.heap[wr.heap.size]? = some (.cells #[.bool false, .bool true] 4 (0, 0))) := by rw [← hW4]; exact heapOld (bl2 _) HS3.out
      have y2 := cellOf (k := 2) HC4.out rfl
      have y3 := cellOf (k := 3) HC4.out rfl
      go_wp2_with fail
      clear y2 y3 hW4
      refine (HC1.out _).mono ?_
      rintro e w5 ⟨rfl, hb5⟩
      have HB5 := Lib.hid (blN HB4.out hb5)
      have HC5 := Lib.hid (heapOld hb5 HC4.out)
      have HS5 := Lib.hid (heapOld hb5 HS4.out)
      clear hb5
      have y3 := cellOf (k := 3) HC5.out rfl
      go_wp2
      clear y3
      rw [rounds_succ]
      obtain ⟨z0, z1, z2⟩ := HK.out w5 HB5.out
      have k1 := cellOf (k := 1) HS5.out rfl
      go_wp2_with fail
      clear z0 z1 z2 k1
      refine (HL2.out _ (blN HB0.out HB5.out)).mono ?_
      rintro e w6 ⟨rfl, hb6⟩
      have HB6 := Lib.hid (blN HB5.out hb6)
      clear hb6
      obtain ⟨W7, hW7⟩ : ∃ W, w6.alloc (.cells #[.pointer (some ⟨B, 0, none⟩), .int .i64 a2, .string t, .int .i64 gc] 81) = W := ⟨_, rfl⟩
      have HB7 : Hid (Below W0.heap.size W0 W7) := by rw [← hW7]; exact bl1 HB6.out _
      have HC7 : Hid (W7.heap[w6.heap.size]? = some (.cells #[.pointer (some ⟨B, 0, none⟩), .int .i64 a2, .string t, .int .i64 gc] 81 (0, 0))) := by rw [← hW7]; exact heapNew w6 _
      have y2 := cellOf (k := 2) HC7.out rfl
      have y3 := cellOf (k := 3) HC7.out rfl
      go_wp2_with fail
      clear y2 y3 hW7
      refine (HC2.out _).mono ?_
      rintro e w8 ⟨rfl, hb8⟩
      have HB8 := Lib.hid (blN HB7.out hb8)
      have HC8 := Lib.hid (heapOld hb8 HC7.out)
      clear hb8
      have y3 := cellOf (k := 3) HC8.out rfl
      go_wp2
      clear y3
      rw [rounds_succ]
      go_wp2
      go_roundw
      case rel => exact ⟨HB8, k + 1, _, _, xr', yr', by omega, by go_num, rfl, rfl, HR2, HSum, HBnd.out⟩
      case measure => simp [intOf]; omega
    · obtain rfl : k = len := by omega
      have hr := HR.out
      rw [List.drop_of_length_le (by have := HN.out; omega)] at hr
      have h0 : ((0 : Int), (0 : Int)) = (xr, yr) := Option.some.inj hr
      have hs := HS.out
      have e1 : p = x := by have := (Prod.mk.inj h0).1; omega
      have e2 : q = y := by have := (Prod.mk.inj h0).2; omega
      subst e1
      subst e2
      clear hs h0 hr HS HR hp0 hp1 hq0 hq1
      go_wp2
      refine bodyPost_ret (v := .tuple #[.int .i64 p, .int .i64 q, .int .i64 0]) (by simp [results, Tryz.results18, go_sem]) rfl ?_
      exact ⟨rfl, blN HB0.out HB.out⟩
end
end Go.Proofs.YtghafpdmcbockaaGreatDoor
