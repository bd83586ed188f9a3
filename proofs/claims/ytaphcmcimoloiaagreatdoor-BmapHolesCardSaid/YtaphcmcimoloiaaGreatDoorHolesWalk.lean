/-
  The walk of law BmapHoles.
-/
import Derived.Test.YtaphcmcimoloiaaGreatDoorBmF
namespace Go.Proofs.YtaphcmcimoloiaaGreatDoor
open Go Go.RowKit Txt Sp
theorem ofL_len (s : ByteArray) : s.data.toList.length = s.size := Array.length_toList
/-- copy(b, s) into a whole block: as much as there is room for. -/
theorem run_copy_cut {P : Program} (w : World) {dT sT ty e : TypeId} (hu : P.underlying dT = some (.slice e)) (hs : (P.info? e).map (·.size) = some 1) {g : Nat} {l : List UInt8} (hg : w.heap[g]? = some (bytesO l e (0, 0))) (s : ByteArray) (cap : Nat) :
    (Builtin.copy_ #[dT, sT] ty #[.slice (some ⟨g, 0, none⟩) l.length cap, .string s]).run P w =
      .ok (goInt (Nat.min s.size l.length)) (w.setRow g (bytesV (s.data.toList.take l.length ++ l.drop s.size)).toArray) := by
  have hsz : s.data.toList.length = s.size := Array.length_toList
  have hcs : List.take (s.size.min l.length) (List.map (fun b : UInt8 => Value.int .u8 (b.toNat : Int)) s.data.toList) = bytesV (s.data.toList.take l.length) := by
    unfold bytesV
    rw [List.map_take]
    rcases Nat.le_total s.size l.length with h | h
    · rw [show s.size.min l.length = s.size from Nat.min_eq_left h, List.take_of_length_le (by rw [List.length_map, hsz]; exact Nat.le_refl _), List.take_of_length_le (by rw [List.length_map, hsz]; exact h)]
    · rw [show s.size.min l.length = l.length from Nat.min_eq_right h]
  have hst := run_storeCells_at P g 0 e (bytesV (s.data.toList.take l.length)) 0 (bytesV l).toArray w hg (by rw [bytesV_length]; simp [bytesV_length]; omega) bytesV_one
  have hres : (bytesV l).take 0 ++ bytesV (s.data.toList.take l.length) ++ (bytesV l).drop (0 + (bytesV (s.data.toList.take l.length)).length) = bytesV (s.data.toList.take l.length ++ l.drop s.size) := by
    unfold bytesV
    rw [List.take_zero, List.nil_append, List.map_append, List.length_map, Nat.zero_add, ← List.map_drop]
    congr 2
    rw [List.length_take]
    rcases Nat.le_total l.length s.data.toList.length with h | h
    · rw [Nat.min_eq_left h, List.drop_of_length_le (Nat.le_refl _), List.drop_of_length_le (by rw [← hsz]; exact h)]
    · rw [Nat.min_eq_right h, hsz]
  cases hq : P.info? e with
  | none => simp [hq] at hs
  | some i =>
    simp only [Nat.zero_add, Nat.add_zero, List.take_zero] at hst hres
    rw [hres] at hst
    simp [Builtin.copy_, run_underlying hu, Builtin.lenOf, Builtin.firstCells, sizeOf, typeInfo, hq, hcs, hst]
section
set_option maxHeartbeats 4000000
set_option maxRecDepth 20000 in
theorem holes_any (w : World) (o : Int) (x : ByteArray) (l : Int) : Calls Tryz.prog 5 #[.int .i64 o, .string x, .int .i64 l] w fun e w' => e = .returned (.bool true) ∧ Below w.heap.size w w' := by
  have hgr := fun W : World => ground_any W false
  rw [show ground16 false = gH from rfl] at hgr
  have hld := fun W : World => laid16_any W (g := gH) okH (by decide)
  have hwk := fun W : World => works16_any W
  have ha1 := fun W : World => amongJ_any W o 2300 (by decide) (by decide)
  have ha2 := fun W : World => amongJ_any W l 2500 (by decide) (by decide)
  have b1 := amongJ_bd o 2300 (by decide)
  have b2 := amongJ_bd l 2500 (by decide)
  obtain ⟨off, hoff⟩ : ∃ n : Nat, amongJ o 2300 = (n : Int) := ⟨(amongJ o 2300).toNat, by omega⟩
  obtain ⟨long, hlong⟩ : ∃ n : Nat, amongJ l 2500 = (n : Int) := ⟨(amongJ l 2500).toNat, by omega⟩
  rw [hoff] at ha1 b1
  rw [hlong] at ha2 b2
  unfold gV gH at hgr hld
  dsimp only at hgr hld
  have heq := eql_disk_nil
  unfold pt at *
  have HGR := Lib.hid hgr
  have HLD := Lib.hid hld
  have HWK := Lib.hid hwk
  have HA1 := Lib.hid ha1
  have HA2 := Lib.hid ha2
  clear hgr hld hwk ha1 ha2
  clear hoff hlong
  go_enter Tryz.func5, Tryz.ntmps5
  go_wp2_with fail
  refine (HGR.out _).mono ?_
  rintro e w1 ⟨rfl, hb1⟩
  obtain ⟨W2, hW2⟩ : ∃ W, w1.alloc (.cells #[.int .i64 1, .int .i64 4, .int .i64 60] 27) = W := ⟨_, rfl⟩
  have HB2 : Hid (Below w.heap.size w W2) := blN hb1 (by rw [← hW2]; exact bl2 _)
  have HG2 : Hid (W2.heap[w1.heap.size]? = some (.cells #[.int .i64 1, .int .i64 4, .int .i64 60] 27 (0, 0))) := by rw [← hW2]; exact heapNew w1 _
  have HZ2 : Hid (w.heap.size ≤ w1.heap.size ∧ w1.heap.size < W2.heap.size) := ⟨hb1.size, by rw [← hW2]; show _ < _; simp⟩
  clear hb1
  have z0 := cellOf (k := 0) HG2.out rfl
  have z1 := cellOf (k := 1) HG2.out rfl
  have z2 := cellOf (k := 2) HG2.out rfl
  go_wp2_with fail
  clear z0 z1 z2 hW2
  refine (HLD.out _).mono ?_
  rintro e w3 ⟨base, B, Bd, D, rfl, hs3, hb3, hD3⟩
  have HS3 := Lib.hid hs3
  have HB3 := Lib.hid hb3
  have HD3 := Lib.hid hD3
  clear hs3 hb3 hD3
  go_wp2_with fail
  refine (HWK.out _).mono ?_
  rintro e w4 ⟨rfl, hb4⟩
  have HB4 := Lib.hid (blN HB3.out hb4)
  have HS4 : Hid (SideAt w4 base B Bd (plainS (laid16L gH) 0 0) D) := HS3.out.below hb4
  have HZ4 : Hid (w3.heap.size ≤ w4.heap.size) := hb4.size
  clear hb4
  go_wp2_with fail
  refine (HA1.out _).mono ?_
  rintro e w5 ⟨rfl, hw5⟩
  subst hw5
  go_wp2_with fail
  refine (HA2.out _).mono ?_
  rintro e w6 ⟨rfl, hw6⟩
  subst hw6
  have HF4 : Hid (Below w.heap.size w w6) := blN HB2.out HB4.out
  by_cases hx0 : x = ⟨#[]⟩
  · subst hx0
    go_wp2
    go_ret
    exact ⟨rfl, HF4.out⟩
  have hl : x.data.toList ≠ [] := fun h => hx0 (by
    obtain ⟨⟨l⟩⟩ := x
    have : l = [] := h
    rw [this])
  have hne : (x.toList == []) = false := by
    rw [Lib.toList_data]
    exact beq_eq_false_iff_ne.2 hl
  by_cases h2 : 200 < x.size
  · have h2' : (200 : Int) < (x.size : Int) := by omega
    have h2'' : decide ((x.size : Int) > 200) = true := decide_eq_true h2'
    go_wp2
    go_ret
    exact ⟨rfl, HF4.out⟩
  have hx200 : x.data.toList.length ≤ 200 := by
    have : x.data.toList.length = x.size := rfl
    omega
  have h2'' : decide ((x.size : Int) > 200) = false := decide_eq_false (by omega)
  obtain ⟨W7, hW7⟩ : ∃ W, w6.alloc (.cells #[.int .i64 0] 3) = W := ⟨_, rfl⟩
  have hb7 : Below w6.heap.size w6 W7 := by rw [← hW7]; exact bl2 _
  have hz7 : W7.heap[w6.heap.size]? = some (.cells #[.int .i64 0] 3 (0, 0)) := by rw [← hW7]; exact heapNew w6 _
  have HG6 : Hid (w6.heap[w1.heap.size]? = some (.cells #[.int .i64 1, .int .i64 4, .int .i64 60] 27 (0, 0))) := heapOld HB4.out HG2.out
  have HG7 : Hid (W7.heap[w1.heap.size]? = some (.cells #[.int .i64 1, .int .i64 4, .int .i64 60] 27 (0, 0))) := heapOld hb7 HG6.out
  have hlt7 : ∀ j, D j → j < w6.heap.size := fun j hj => Nat.lt_of_lt_of_le (HD3.out j hj).2 HZ4.out
  have HLt : Hid (∀ j, D j → j < W7.heap.size) := fun j hj => Nat.lt_of_lt_of_le (hlt7 j hj) hb7.size
  have hw7 := callWrite (HS4.out.below hb7) HLt.out (off := off) (by omega) x hl hx200 _ (fun W' hT => ints_sole (hT.heap hz7 (fun hd => by have := hlt7 _ hd; omega)))
  have HZ7 : Hid (w6.heap.size ≤ W7.heap.size) := hb7.size
  have HF7 : Hid (Below w.heap.size w W7) := blN HF4.out hb7
  unfold gV gH pt at hw7
  dsimp only at hw7
  have HW7 := Lib.hid hw7
  clear hw7
  clear hb7 hz7 hlt7
  have z0 := cellOf (k := 0) HG6.out rfl
  have z1 := cellOf (k := 1) HG6.out rfl
  have z2 := cellOf (k := 2) HG6.out rfl
  go_wp2_with fail
  clear z0 z1 z2 hW7
  refine HW7.out.mono ?_
  rintro e w8 ⟨v, S, F, rfl, hs8, hh⟩
  have HH := Lib.hid hh
  have HLow : Hid (∀ j, D j → W2.heap.size ≤ j) := fun j hj => (HD3.out j hj).1
  have HT8 : Hid (∃ K, (∀ j, K j → D j) ∧ Turn K W7 w8) := hs8.2
  have HZ8 : Hid (W7.heap.size ≤ w8.heap.size) := by obtain ⟨K, hK, hT⟩ := HT8.out; exact hT.size
  have HG8 : Hid (w8.heap[w1.heap.size]? = some (.cells #[.int .i64 1, .int .i64 4, .int .i64 60] 27 (0, 0))) := hs8.heap HG7.out (fun hd => by have := HLow.out _ hd; have := HZ2.out.2; omega)
  have HLt8 : Hid (∀ j, (D j ∨ (W7.heap.size ≤ j ∧ j < w8.heap.size)) → j < w8.heap.size) := fun j hj => hj.elim (fun h => by have := HLt.out j h; have := HZ8.out; omega) (fun h => h.2)
  have hr8 := callRead hh (by omega) hs8.1 HLt8.out
  unfold gV gH pt at hr8
  dsimp only at hr8
  have HR8 := Lib.hid hr8
  clear hr8
  clear hs8 hh
  have z0 := cellOf (k := 0) HG8.out rfl
  have z1 := cellOf (k := 1) HG8.out rfl
  have z2 := cellOf (k := 2) HG8.out rfl
  go_wp2_with fail
  clear z0 z1 z2
  refine HR8.out.mono ?_
  rintro e w9 ⟨rfl, hs9⟩
  have HS9 := Lib.hid hs9
  obtain ⟨D9, hq1, hq2, hq3⟩ : ∃ D9 : Nat → Prop, SideAt w9 base B Bd S D9 ∧ (∀ j, D9 j → j < w9.heap.size) ∧ (∀ j, D9 j → W2.heap.size ≤ j) := by
    have h1 := HB3.out.size
    have h2 := HZ4.out
    have h3 := HZ7.out
    have h4 := HZ8.out
    have h5 : w8.heap.size ≤ w9.heap.size := by obtain ⟨_, K, hK, hT⟩ := hs9; exact hT.size
    refine ⟨_, hs9.1, fun j hj => hj.elim (fun h => by have := HLt8.out j h; omega) (fun h => h.2), fun j hj => hj.elim (fun h => h.elim (fun h => HLow.out j h) (fun h => by have := h.1; omega)) (fun h => by have := h.1; omega)⟩
  have HQ1 := Lib.hid hq1
  have HQ2 := Lib.hid hq2
  have HQ3 := Lib.hid hq3
  have HF9 : Hid (Below w.heap.size w w9) := by
    obtain ⟨K, hK, hT⟩ := HT8.out
    have h0 := HZ2.out
    have h1 := HB3.out.size
    have h2 := HZ4.out
    have h3 := HZ7.out
    have h4 := HZ8.out
    have h8 : Below w.heap.size w w8 := HF7.out.trans (hT.below (fun j hj => by have := HLow.out j (hK j hj); omega) (by omega))
    obtain ⟨_, K', hK', hT'⟩ := hs9
    exact h8.trans (hT'.below (fun j hj => (hK' j hj).elim (fun h => by have := HLow.out j h; omega) (fun h => by have := h.1; omega)) (by omega))
  clear hs9 hq1 hq2 hq3
  obtain ⟨ia, ib, ic, id, ie⟩ := info_parts infoU8
  have hmk := run_make_bytes (P := Tryz.prog) w9 Tryz.underlying53 ib ic id ie off (by omega)
  have hcv := run_bytes_text (P := Tryz.prog) (w9.alloc (bytesO (zeros off) 5 (0, 0))) (src := 53) (dst := 9) (z := []) (l := zeros off) (n := off) Tryz.underlying53 Tryz.underlying5 Tryz.underlying9 (by rw [List.append_nil]; exact heapNew w9 _) (zeros_length off).symm off
  have hcat := text_cat (zeros off) x.data.toList
  have hxx : ofL x.data.toList = x := data_ofL x
  rw [hxx] at hcat
  have hlim : ¬ 9223372036854775807 < (ofL (zeros off)).size + x.size := by
    rw [ofL_size, zeros_length]
    have : x.data.toList.length = x.size := rfl
    omega
  obtain ⟨P, hP⟩ : ∃ T, ofL (zeros off ++ x.data.toList) = T := ⟨_, rfl⟩
  obtain ⟨Z, hZ⟩ : ∃ T, ofL (zeros off) = T := ⟨_, rfl⟩
  rw [hP, hZ] at hcat
  rw [hZ] at hcv hlim
  rw [hP]
  obtain ⟨W10, hW10⟩ : ∃ W, w9.alloc (bytesO (zeros off) 5 (0, 0)) = W := ⟨_, rfl⟩
  have HB10 : Hid (Below w9.heap.size w9 W10) := by rw [← hW10]; exact bl2 _
  rw [hW10] at hmk hcv
  clear ia ib ic id ie hxx hW10
  have HG9 : Hid (w9.heap[w1.heap.size]? = some (.cells #[.int .i64 1, .int .i64 4, .int .i64 60] 27 (0, 0))) := HS9.out.heap HG8.out (fun hd => hd.elim (fun h => by have := HLow.out _ h; have := HZ2.out.2; omega) (fun h => by have := h.1; have := HZ7.out; have := HZ4.out; have := HZ2.out.2; have := HB3.out.size; omega))
  have HG10 : Hid (W10.heap[w1.heap.size]? = some (.cells #[.int .i64 1, .int .i64 4, .int .i64 60] 27 (0, 0))) := heapOld HB10.out HG9.out
  have hl10 := bLoad_any (HS9.out.1.below HB10.out) HH.out.st
  have hk10 := fun (W : World) (hW : Below W10.heap.size W10 W) => bBlocks_any ((HS9.out.1.below HB10.out).below hW) HH.out.st
  obtain ⟨nn, hnn⟩ : ∃ n, F.node = n := ⟨_, rfl⟩
  rw [hnn] at hl10 hk10
  unfold gV gH pt nA iA at hl10 hk10
  dsimp only at hl10 hk10
  obtain ⟨x0, h0⟩ : ∃ x, nn.kind = x := ⟨_, rfl⟩
  obtain ⟨x1, h1⟩ : ∃ x, nn.links = x := ⟨_, rfl⟩
  obtain ⟨x2, h2⟩ : ∃ x, nn.size = x := ⟨_, rfl⟩
  obtain ⟨x3, h3⟩ : ∃ x, nn.parent = x := ⟨_, rfl⟩
  obtain ⟨x4, h4⟩ : ∃ x, nn.gen = x := ⟨_, rfl⟩
  obtain ⟨d0, h5⟩ : ∃ x, nn.direct.getD 0 0 = x := ⟨_, rfl⟩
  obtain ⟨d1, h6⟩ : ∃ x, nn.direct.getD 1 0 = x := ⟨_, rfl⟩
  obtain ⟨d2, h7⟩ : ∃ x, nn.direct.getD 2 0 = x := ⟨_, rfl⟩
  obtain ⟨d3, h8⟩ : ∃ x, nn.direct.getD 3 0 = x := ⟨_, rfl⟩
  obtain ⟨d4, h9⟩ : ∃ x, nn.direct.getD 4 0 = x := ⟨_, rfl⟩
  obtain ⟨d5, h10⟩ : ∃ x, nn.direct.getD 5 0 = x := ⟨_, rfl⟩
  obtain ⟨d6, h11⟩ : ∃ x, nn.direct.getD 6 0 = x := ⟨_, rfl⟩
  obtain ⟨d7, h12⟩ : ∃ x, nn.direct.getD 7 0 = x := ⟨_, rfl⟩
  obtain ⟨x6, h13⟩ : ∃ x, nn.more = x := ⟨_, rfl⟩
  rw [h0, h1, h2, h3, h4, h5, h6, h7, h8, h9, h10, h11, h12, h13] at hl10
  simp only [h0, h1, h2, h3, h4, h5, h6, h7, h8, h9, h10, h11, h12, h13] at hk10
  clear h0 h1 h2 h3 h4 h5 h6 h7 h8 h9 h10 h11 h12 h13 hnn
  have HL10 := Lib.hid hl10
  have HK10 := Lib.hid hk10
  clear hl10 hk10
  have z0 := cellOf (k := 0) HG10.out rfl
  have z1 := cellOf (k := 1) HG10.out rfl
  have z2 := cellOf (k := 2) HG10.out rfl
  go_wp2_with fail
  clear z0 z1 z2
  refine HL10.out.mono ?_
  rintro e w11 ⟨rfl, hb11⟩
  have HB11 := Lib.hid (blN HB10.out hb11)
  have HBX := Lib.hid hb11
  clear hb11
  obtain ⟨W12, hW12⟩ : ∃ W, w11.alloc (.cells #[.int .i64 x0, .int .i64 x1, .int .i64 x2, .int .i64 x3, .int .i64 x4, .int .i64 d0, .int .i64 d1, .int .i64 d2, .int .i64 d3, .int .i64 d4, .int .i64 d5, .int .i64 d6, .int .i64 d7, .int .i64 x6] 56) = W := ⟨_, rfl⟩
  have HZ12 : Hid (W12.heap[w11.heap.size]? = some (.cells #[.int .i64 x0, .int .i64 x1, .int .i64 x2, .int .i64 x3, .int .i64 x4, .int .i64 d0, .int .i64 d1, .int .i64 d2, .int .i64 d3, .int .i64 d4, .int .i64 d5, .int .i64 d6, .int .i64 d7, .int .i64 x6] 56 (0, 0))) := by rw [← hW12]; exact heapNew w11 _
  have hb12 : Below w11.heap.size w11 W12 := by rw [← hW12]; exact bl2 _
  have HB12 : Hid (Below w9.heap.size w9 W12) := blN HB11.out hb12
  have HB12' : Hid (Below W10.heap.size W10 W12) := blN HBX.out hb12
  have HG12 : Hid (W12.heap[w1.heap.size]? = some (.cells #[.int .i64 1, .int .i64 4, .int .i64 60] 27 (0, 0))) := heapOld HB12'.out HG10.out
  have hk12 := HK10.out W12 HB12'.out
  have HK12 := Lib.hid hk12
  clear hk12
  clear hb12
  have z0 := cellOf (k := 0) HG12.out rfl
  have z1 := cellOf (k := 1) HG12.out rfl
  have z2 := cellOf (k := 2) HG12.out rfl
  obtain ⟨y0, -⟩ := blk_cells HZ12.out
  go_wp2_with fail
  clear z0 z1 z2 y0 hW12
  refine HK12.out.mono ?_
  rintro e w13 ⟨vb, rfl, ho13, hb13⟩
  have hv13 : Ints w13 vb F.blocks := OwnR.row (fun _ _ => rfl) ho13
  obtain ⟨ad, len, cap, rfl, HN, hn2, HF13⟩ := RowAt.facts hv13
  have hlen : len = 40 := HN.out.trans HH.out.len
  subst hlen
  have HB13 := Lib.hid (blN HB12.out hb13)
  have HBLK : Hid (∀ (k : Nat) (y : Int), k < 40 → F.blocks[k]? = some y → (y ≠ 0 ↔ (off < 64 * (k + 1) ∧ 64 * k < off + x.size))) := fun k y hk hy => by
    have h := HH.out.blk k hk
    rw [List.getD_eq_getElem?_getD, hy] at h
    refine h.trans ⟨fun h => h.2, fun h => ⟨hl, h⟩⟩
  have HG13 := Lib.hid (heapOld hb13 HG12.out)
  clear hv13 ho13 hb13 hn2
  go_wp2
  go_loopw [101] (fun i wr => wr = w13 ∧ ∃ k : Nat, k ≤ 40 ∧ i = .int .i64 (k : Int)) (fun i _ => 40 - (intOf i).toNat)
  case atStart => exact ⟨rfl, 0, Nat.zero_le _, rfl⟩
  case round =>
    obtain ⟨hwr, k, hk, rfl⟩ := hrel
    subst hwr
    by_cases hlt : k < 40
    · obtain ⟨bl, o, z, rfl, hbl, hz, hc⟩ := HF13.out k hlt
      have c0 := hc 0 _ rfl
      rw [Nat.mul_one, Nat.add_zero] at c0
      have hiff := HBLK.out k z hlt hz
      clear hz hc hbl
      by_cases h1 : (off : Int) < ((k : Int) + 1) * 64
      · by_cases h3 : (k : Int) * 64 < (off : Int) + (x.size : Int)
        · have hz : z ≠ 0 := hiff.2 ⟨by omega, by omega⟩
          have y1 : (z != 0) = true := by simpa using hz
          have y2 : decide ((k : Int) * 64 < (off : Int) + (x.size : Int)) = true := decide_eq_true h3
          clear hiff hz
          go_wp2
          go_roundw
          case rel => exact ⟨trivial, k + 1, by omega, by go_num⟩
          case measure => simp [intOf]; omega
        · have hz : z = 0 := Decidable.byContradiction fun h => h3 (by have := (hiff.1 h).2; omega)
          have y1 : (z != 0) = false := by simpa using hz
          have y2 : decide ((k : Int) * 64 < (off : Int) + (x.size : Int)) = false := decide_eq_false h3
          clear hiff hz
          go_wp2
          go_roundw
          case rel => exact ⟨trivial, k + 1, by omega, by go_num⟩
          case measure => simp [intOf]; omega
      · have hz : z = 0 := Decidable.byContradiction fun h => h1 (by have := (hiff.1 h).1; omega)
        have y1 : (z != 0) = false := by simpa using hz
        clear hiff hz
        go_wp2
        go_roundw
        case rel => exact ⟨trivial, k + 1, by omega, by go_num⟩
        case measure => simp [intOf]; omega
    · have hk40 : k = 40 := by omega
      subst hk40
      clear hk hlt
      have HLt13 : Hid (∀ j, D9 j → j < wr.heap.size) := fun j hj => Nat.lt_of_lt_of_le (HQ2.out j hj) HB13.out.size
      have hc13 := callCut HH.out (by omega) (HQ1.out.below HB13.out) HLt13.out (z := long) (by omega)
      unfold gV gH pt at hc13
      dsimp only at hc13
      have HC13 := Lib.hid hc13
      clear hc13
      have z0 := cellOf (k := 0) HG13.out rfl
      have z1 := cellOf (k := 1) HG13.out rfl
      have z2 := cellOf (k := 2) HG13.out rfl
      go_wp2_with fail
      clear z0 z1 z2
      refine HC13.out.mono ?_
      rintro e w14 ⟨v14, S14, F14, rfl, hs14, hl14, hst14, hhas14⟩
      have hr14 := bread_any hs14.1 (fun j hj => hj.elim (fun h => by obtain ⟨_, K, hK, hT⟩ := hs14; have := HLt13.out j h; have := hT.size; omega) (fun h => h.2)) hst14 hhas14 0 3000 (by decide) (by decide)
      obtain ⟨L, hL⟩ : ∃ L, (zeros off ++ x.data.toList).take long ++ zeros (long - (off + x.data.toList.length)) = L := ⟨_, rfl⟩
      have HLen : Hid (L.length = long) := by
        show _ = _
        rw [← hL, List.length_append, List.length_take, List.length_append, zeros_length, zeros_length]
        omega
      rw [hL] at hl14
      rw [readB_all (by rw [hl14, HLen.out]; omega), hl14] at hr14
      have HG14 : Hid (w14.heap[w1.heap.size]? = some (.cells #[.int .i64 1, .int .i64 4, .int .i64 60] 27 (0, 0))) := hs14.heap HG13.out (fun hd => by have := HQ3.out _ hd; have := HZ2.out.2; omega)
      have HF14 : Hid (Below w.heap.size w w14) := by
        obtain ⟨_, K, hK, hT⟩ := hs14
        have h0 := HZ2.out
        have h9 := HF9.out.size
        have h13 := HB13.out.size
        exact (HF9.out.trans (HB13.out.mono h9)).trans (hT.below (fun j hj => by have := HQ3.out j (hK j hj); omega) (by omega))
      have HLow14 : Hid (w.heap.size ≤ wr.heap.size ∧ ∀ j, D9 j → w.heap.size ≤ j) := ⟨by have := HF9.out.size; have := HB13.out.size; omega, fun j hj => by have := HQ3.out j hj; have := HZ2.out; omega⟩
      unfold gV pt at hr14
      dsimp only at hr14
      have HR14 := Lib.hid hr14
      clear hr14
      clear hs14 hl14 hst14 hhas14
      have z0 := cellOf (k := 0) HG14.out rfl
      have z1 := cellOf (k := 1) HG14.out rfl
      have z2 := cellOf (k := 2) HG14.out rfl
      go_wp2_with fail
      clear z0 z1 z2
      refine HR14.out.mono ?_
      rintro e w15 ⟨rfl, hs15⟩
      have HF15 : Hid (Below w.heap.size w w15) := by
        obtain ⟨_, K, hK, hT⟩ := hs15
        have h14 := HF14.out.size
        exact HF14.out.trans (hT.below (fun j hj => (hK j hj).elim (fun h => HLow14.out.2 j h) (fun h => by have := h.1; have := HLow14.out.1; omega)) h14)
      clear hs15
      obtain ⟨ia, ib, ic, id, ie⟩ := info_parts infoU8
      have hmk := run_make_bytes (P := Tryz.prog) w15 Tryz.underlying53 ib ic id ie long (by omega)
      obtain ⟨W16, hW16⟩ : ∃ W, w15.alloc (bytesO (zeros long) 5 (0, 0)) = W := ⟨_, rfl⟩
      have hz16 : W16.heap[w15.heap.size]? = some (bytesO (zeros long) 5 (0, 0)) := by rw [← hW16]; exact heapNew w15 _
      have hb16 : Below w.heap.size w W16 := by rw [← hW16]; exact bl1 HF15.out _
      rw [hW16] at hmk
      have hsP : P.data.toList = zeros off ++ x.data.toList := by rw [← hP]; exact ofL_data _
      have hcp := run_copy_cut (P := Tryz.prog) (dT := 53) (sT := 9) (ty := 3) W16 Tryz.underlying53 (by rw [ib]; exact congrArg some id) hz16 P long
      rw [zeros_length] at hcp
      have hrow : P.data.toList.take long ++ (zeros long).drop P.size = L := by
        rw [hsP, ← hL, show P.size = off + x.data.toList.length from by rw [← ofL_len P, hsP, List.length_append, zeros_length]]
        unfold zeros
        rw [List.drop_replicate]
      rw [hrow] at hcp
      obtain ⟨W17, hW17⟩ : ∃ W, W16.setRow w15.heap.size (bytesV L).toArray = W := ⟨_, rfl⟩
      have hz17 : W17.heap[w15.heap.size]? = some (bytesO L 5 (0, 0)) := by rw [← hW17]; exact setRow_bytes hz16 _
      have HF17 : Hid (Below w.heap.size w W17) := by rw [← hW17]; exact below_setRow hb16 HF15.out.size _
      rw [hW17] at hcp
      have hcv := run_bytes_text (P := Tryz.prog) W17 (src := 53) (dst := 9) (z := []) (l := L) (n := long) Tryz.underlying53 Tryz.underlying5 Tryz.underlying9 (by rw [List.append_nil]; exact hz17) HLen.out.symm long
      obtain ⟨Q, hQ⟩ : ∃ T, ofL L = T := ⟨_, rfl⟩
      rw [hQ] at hcv ⊢
      clear ia ib ic id ie hW16 hW17 hz16 hz17 hb16 hrow hsP hL hQ hP hZ
      go_wp2
      go_ret
      exact ⟨rfl, HF17.out⟩
end
end Go.Proofs.YtaphcmcimoloiaaGreatDoor
