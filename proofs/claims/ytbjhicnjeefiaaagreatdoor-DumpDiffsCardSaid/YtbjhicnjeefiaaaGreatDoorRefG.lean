/-
  RefG: RefWhat, RefShape, RefLine, RefText.
-/
import Derived.Test.YtbjhicnjeefiaaaGreatDoorRefF
import Derived.Test.YtbjhicnjeefiaaaGreatDoorRefC
import Derived.Test.YtbjhicnjeefiaaaGreatDoorRefB
import Derived.Test.YtbjhicnjeefiaaaGreatDoorDumpAA
namespace Go.Proofs.YtbjhicnjeefiaaaGreatDoor
open Go Go.RowKit Txt Sp

section
set_option maxHeartbeats 8000000
set_option maxRecDepth 20000 in
theorem rwhat_blank (w : World) (g : Sp.Geom) (a : Int) (s : ByteArray) (h : s = Sp.blank) : Calls Tryz.prog 25 #[gV g, .int .i64 a, .string s] w (WhatPost g a s w) := by
  have hY : ∀ w', Below w.heap.size w w' → WhatPost g a s w (.returned (.string ⟨#[98, 108, 97, 110, 107]⟩)) w' := fun w' hb => ⟨by unfold whatL; rw [if_pos h]; rfl, hb⟩
  obtain ⟨Q, hQ⟩ : ∃ Q, WhatPost g a s w = Q := ⟨_, rfl⟩
  rw [hQ] at hY ⊢
  have q := list_eq s Sp.blank
  have f : (s.toList == Sp.blank.toList) = true := q.trans (decide_eq_true h)
  clear q h hQ
  obtain ⟨BK, hBK⟩ : ∃ x, Sp.blank = x := ⟨_, rfl⟩
  rw [hBK] at f
  have HBK : Hid (ofL (zeros 64) = BK) := hBK
  clear hBK
  obtain ⟨ga, gb, gc⟩ := g
  unfold gV
  have HY := Lib.hid hY
  clear hY
  obtain ⟨W0, hW0⟩ : ∃ W, w.alloc (.cells #[.int .i64 ga, .int .i64 gb, .int .i64 gc] 23) = W := ⟨_, rfl⟩
  have hk := g_keep hW0
  have HB0 := Lib.hid hk.1
  have HK := Lib.hid hk.2
  clear hk
  obtain ⟨ia, ib, ic, id, ie⟩ := info_parts infoU8
  have hmk := run_make_bytes (P := Tryz.prog) W0 Tryz.underlying42 ib ic id ie 64 (by decide)
  have hcv := run_bytes_text (P := Tryz.prog) (W0.alloc (bytesO (zeros 64) 5 (0, 0))) (src := 42) (dst := 9) (z := []) (l := zeros 64) (n := 64) Tryz.underlying42 Tryz.underlying5 Tryz.underlying9 (by rw [List.append_nil]; exact heapNew W0 _) (zeros_length 64).symm 64
  rw [HBK.out] at hcv
  obtain ⟨W1, hW1⟩ : ∃ W, W0.alloc (bytesO (zeros 64) 5 (0, 0)) = W := ⟨_, rfl⟩
  have HB1 : Hid (Below W0.heap.size W0 W1) := by rw [← hW1]; exact bl2 _
  rw [hW1] at hmk hcv
  change (Instr.makeSlice _ (.int .i64 64) (.int .i64 64)).run _ _ = _ at hmk
  clear hW1 ia ib ic id ie
  go_enter Tryz.func25, Tryz.ntmps25
  go_wp2
  first | exact HY.out _ (blN HB0.out HB1.out) | (go_ret2; exact HY.out _ (blN HB0.out HB1.out)) | (go_ret; exact HY.out _ (blN HB0.out HB1.out))

set_option maxRecDepth 20000 in
theorem rwhat_kind (w : World) (g : Sp.Geom) (a : Int) (s : ByteArray) (hg : g.ok) (h0 : 0 ≤ a) (h1 : a < g.size) (hs : s.size = 64)
    (hnb : ¬ s = Sp.blank) (hns : ¬ isSuper s) (hnf : ¬ isFence s) :
    Calls Tryz.prog 25 #[gV g, .int .i64 a, .string s] w (WhatPost g a s w) := by
  have hd := fun W : World => rsdecode_any W s
  unfold DecodedG superG superC at hd
  rw [if_neg hns, if_neg hns] at hd
  have he := fun W : World => repochs_any W s
  unfold EpochsPost at he
  rw [if_neg hnf, if_neg hnf, if_neg hnf] at he
  have hto := fun W : World => rtold_any W g a s hg h0 h1 hs
  have hhex := fun W : World => rhex_any W s (by omega)
  have hwl : whatL g a s = (told g a s).getD (wRaw ++ hexL s.data.toList) := by
    unfold whatL
    rw [if_neg hnb, if_neg hns, if_neg hnf]
  have hcat := text_cat wRaw (hexL s.data.toList)
  have hYr : told g a s = none → ∀ w', Below w.heap.size w w' → WhatPost g a s w (.returned (.string (ofL (wRaw ++ hexL s.data.toList)))) w' := fun h w' hb => ⟨by rw [hwl, h]; rfl, hb⟩
  have hYt : ∀ L, told g a s = some L → ∀ w', Below w.heap.size w w' → WhatPost g a s w (.returned (.string (ofL L))) w' := fun L h w' hb => ⟨by rw [hwl, h]; rfl, hb⟩
  have q := list_eq s Sp.blank
  have f : (s.toList == Sp.blank.toList) = false := q.trans (decide_eq_false hnb)
  obtain ⟨Q, hQ⟩ : ∃ Q, WhatPost g a s w = Q := ⟨_, rfl⟩
  rw [hQ] at hYr hYt ⊢
  obtain ⟨BK, hBK⟩ : ∃ x, Sp.blank = x := ⟨_, rfl⟩
  rw [hBK] at f
  have HBK : Hid (ofL (zeros 64) = BK) := hBK
  obtain ⟨o, ho⟩ : ∃ o, told g a s = o := ⟨_, rfl⟩
  rw [ho] at hto hYr hYt
  have hsz : (ofL (hexL s.data.toList)).size ≤ 1000 := by
    rw [ofL_size, hexL_length]
    have : s.data.toList.length = 64 := by rw [Array.length_toList]; exact hs
    omega
  obtain ⟨HX, hHX⟩ : ∃ T, ofL (hexL s.data.toList) = T := ⟨_, rfl⟩
  obtain ⟨RX, hRX⟩ : ∃ T, ofL (wRaw ++ hexL s.data.toList) = T := ⟨_, rfl⟩
  rw [hRX] at hYr hcat
  rw [hHX] at hhex hcat hsz
  have hlim : ¬ 9223372036854775807 < 4 + HX.size := by omega
  change (⟨#[114, 97, 119, 32]⟩ : ByteArray) ++ HX = RX at hcat
  clear q hnb hns hnf hQ hBK ho hHX hRX hwl hg h0 h1 hs
  obtain ⟨ga, gb, gc⟩ := g
  unfold gV at hd hto ⊢
  have HD := Lib.hid hd
  have HE := Lib.hid he
  have HTO := Lib.hid hto
  have HHEX := Lib.hid hhex
  have HYR := Lib.hid hYr
  have HYT := Lib.hid hYt
  clear hd he hto hhex hYr hYt
  obtain ⟨W0, hW0⟩ : ∃ W, w.alloc (.cells #[.int .i64 ga, .int .i64 gb, .int .i64 gc] 23) = W := ⟨_, rfl⟩
  have hk := g_keep hW0
  have HB0 := Lib.hid hk.1
  have HK := Lib.hid hk.2
  clear hk
  obtain ⟨ia, ib, ic, id, ie⟩ := info_parts infoU8
  have hmk := run_make_bytes (P := Tryz.prog) W0 Tryz.underlying42 ib ic id ie 64 (by decide)
  have hcv := run_bytes_text (P := Tryz.prog) (W0.alloc (bytesO (zeros 64) 5 (0, 0))) (src := 42) (dst := 9) (z := []) (l := zeros 64) (n := 64) Tryz.underlying42 Tryz.underlying5 Tryz.underlying9 (by rw [List.append_nil]; exact heapNew W0 _) (zeros_length 64).symm 64
  rw [HBK.out] at hcv
  obtain ⟨W1, hW1⟩ : ∃ W, W0.alloc (bytesO (zeros 64) 5 (0, 0)) = W := ⟨_, rfl⟩
  have HB1 : Hid (Below W0.heap.size W0 W1) := by rw [← hW1]; exact bl2 _
  rw [hW1] at hmk hcv
  change (Instr.makeSlice _ (.int .i64 64) (.int .i64 64)).run _ _ = _ at hmk
  clear hW1 ia ib ic id ie
  go_enter Tryz.func25, Tryz.ntmps25
  go_wp2_with fail
  refine (HD.out _).mono ?_
  rintro e w2 ⟨rfl, hb2⟩
  have HB2 := Lib.hid (blN HB1.out hb2)
  clear hb2
  clear hmk hcv
  go_wp2_with fail
  refine (HE.out _).mono ?_
  rintro e w3 ⟨rfl, hb3⟩
  have HB3 := Lib.hid (blN (bl1 HB2.out _) hb3)
  clear hb3
  obtain ⟨z0, z1, z2⟩ := HK.out (w3.alloc (.cells #[.int .i64 0, .int .i64 0] 57)) (bl1 HB3.out _)
  go_wp2_with fail
  clear z0 z1 z2
  refine (HTO.out _).mono ?_
  rintro e w7 ⟨T, rfl, hT, hb7⟩
  have HB7 := Lib.hid (blN HB0.out (blN (bl1 HB3.out _) hb7))
  clear hb7
  cases o with
  | none =>
    simp only [Option.isSome]
    clear hT
    go_wp2_with fail
    refine (HHEX.out _).mono ?_
    rintro e w8 ⟨rfl, hb8⟩
    have HF := Lib.hid (HYR.out (by first | rfl | trivial) _ (blN HB7.out hb8))
    clear hb8
    go_wp2
    first | exact HF.out | (go_ret2; exact HF.out) | (go_ret; exact HF.out)
  | some L =>
    simp only [Option.isSome]
    have hT' := hT L rfl
    subst hT'
    have HF := Lib.hid (HYT.out L (by first | rfl | trivial) _ HB7.out)
    clear hT
    go_wp2
    first | exact HF.out | (go_ret2; exact HF.out) | (go_ret; exact HF.out)

set_option maxRecDepth 20000 in
theorem rwhat_super (w : World) (g : Sp.Geom) (a : Int) (s : ByteArray) (hnb : ¬ s = Sp.blank) (hsu : isSuper s) :
    Calls Tryz.prog 25 #[gV g, .int .i64 a, .string s] w (WhatPost g a s w) := by
  have hd := fun W : World => rsdecode_any W s
  unfold DecodedG superG superC at hd
  rw [if_pos hsu, if_pos hsu] at hd
  obtain ⟨x, y, z, hx, hy, hz, hso⟩ : ∃ x y z : Nat, x < 256 ∧ y < 256 ∧ z < 256 ∧ superOf s = ⟨(x : Int), (y : Int), (z : Int)⟩ := ⟨_, _, _, UInt8.toNat_lt _, UInt8.toNat_lt _, UInt8.toNat_lt _, rfl⟩
  rw [hso] at hd
  have hwl : whatL g a s = wSuper ++ listL [x, y, z] := by
    unfold whatL
    rw [if_neg hnb, if_pos hsu, hso]
    rfl
  have hall : ∀ n ∈ [x, y, z], n < 9223372036854775808 := by intro n hn; simp only [List.mem_cons, List.not_mem_nil, or_false] at hn; omega
  have hI : ∀ (W : World) (b : Nat), W.heap[b]? = some (.cells #[.int .i64 (x : Int), .int .i64 (y : Int), .int .i64 (z : Int)] 3 (0, 0)) → Ints W (.slice (some ⟨b, 0, none⟩) 3 3) [(x : Int), (y : Int), (z : Int)] := fun W b hW => ints_block (o := 0) hW (fun j n hj => by
    match j, hj with
    | 0, hj => have e : (x : Int) = n := by simpa using hj
               rw [← e]; rfl
    | 1, hj => have e : (y : Int) = n := by simpa using hj
               rw [← e]; rfl
    | 2, hj => have e : (z : Int) = n := by simpa using hj
               rw [← e]; rfl
    | q + 3, hj => simp at hj) (by unfold maxLen; simp) rfl
  have hn := fun (W : World) (b : Nat) hW => rlist_any W _ [x, y, z] (hI W b hW) (by simp) hall
  have hcat := text_cat wSuper (listL [x, y, z])
  have hlz : (ofL (listL [x, y, z])).size ≤ 60 := by rw [ofL_size]; exact listL_le [x, y, z] hall
  have hY : ∀ w', Below w.heap.size w w' → WhatPost g a s w (.returned (.string (ofL (wSuper ++ listL [x, y, z])))) w' := fun w' hb => ⟨by rw [hwl], hb⟩
  obtain ⟨T, hT⟩ : ∃ T, ofL (wSuper ++ listL [x, y, z]) = T := ⟨_, rfl⟩
  obtain ⟨L, hL⟩ : ∃ T, ofL (listL [x, y, z]) = T := ⟨_, rfl⟩
  rw [hT] at hcat hY
  rw [hL] at hn hcat hlz
  change (⟨#[115, 117, 112, 101, 114]⟩ : ByteArray) ++ L = T at hcat
  have hlim : ¬ 9223372036854775807 < 5 + L.size := by omega
  have q := list_eq s Sp.blank
  have f : (s.toList == Sp.blank.toList) = false := q.trans (decide_eq_false hnb)
  obtain ⟨Q, hQ⟩ : ∃ Q, WhatPost g a s w = Q := ⟨_, rfl⟩
  rw [hQ] at hY ⊢
  obtain ⟨BK, hBK⟩ : ∃ x, Sp.blank = x := ⟨_, rfl⟩
  rw [hBK] at f
  have HBK : Hid (ofL (zeros 64) = BK) := hBK
  clear q hnb hsu hQ hBK hT hL hso hx hy hz hwl hI hall hlz
  obtain ⟨ga, gb, gc⟩ := g
  unfold gV at hd ⊢
  have HD := Lib.hid hd
  have HN := Lib.hid hn
  have HY := Lib.hid hY
  clear hd hn hY
  obtain ⟨W0, hW0⟩ : ∃ W, w.alloc (.cells #[.int .i64 ga, .int .i64 gb, .int .i64 gc] 23) = W := ⟨_, rfl⟩
  have hk := g_keep hW0
  have HB0 := Lib.hid hk.1
  have HK := Lib.hid hk.2
  clear hk
  obtain ⟨ia, ib, ic, id, ie⟩ := info_parts infoU8
  have hmk := run_make_bytes (P := Tryz.prog) W0 Tryz.underlying42 ib ic id ie 64 (by decide)
  have hcv := run_bytes_text (P := Tryz.prog) (W0.alloc (bytesO (zeros 64) 5 (0, 0))) (src := 42) (dst := 9) (z := []) (l := zeros 64) (n := 64) Tryz.underlying42 Tryz.underlying5 Tryz.underlying9 (by rw [List.append_nil]; exact heapNew W0 _) (zeros_length 64).symm 64
  rw [HBK.out] at hcv
  obtain ⟨W1, hW1⟩ : ∃ W, W0.alloc (bytesO (zeros 64) 5 (0, 0)) = W := ⟨_, rfl⟩
  have HB1 : Hid (Below W0.heap.size W0 W1) := by rw [← hW1]; exact bl2 _
  rw [hW1] at hmk hcv
  change (Instr.makeSlice _ (.int .i64 64) (.int .i64 64)).run _ _ = _ at hmk
  clear hW1 ia ib ic id ie
  go_enter Tryz.func25, Tryz.ntmps25
  go_wp2_with fail
  refine (HD.out _).mono ?_
  rintro e w2 ⟨rfl, hb2⟩
  have HB2 := Lib.hid (blN HB1.out hb2)
  clear hb2
  clear hmk hcv
  go_wp2_with fail
  refine (HN.out _ _ ?a1).mono ?_
  case a1 => exact heapNew2 _ _ _
  rintro e w3 ⟨rfl, hb3⟩
  have HF := Lib.hid (HY.out _ (blN (blN HB0.out (bl1 (bl1 HB2.out _) _)) hb3))
  clear hb3
  go_wp2
  first | exact HF.out | (go_ret2; exact HF.out) | (go_ret; exact HF.out)

set_option maxRecDepth 20000 in
theorem rwhat_fence (w : World) (g : Sp.Geom) (a : Int) (s : ByteArray) (hnb : ¬ s = Sp.blank) (hns : ¬ isSuper s) (hfe : isFence s) :
    Calls Tryz.prog 25 #[gV g, .int .i64 a, .string s] w (WhatPost g a s w) := by
  have hd := fun W : World => rsdecode_any W s
  unfold DecodedG superG superC at hd
  rw [if_neg hns, if_neg hns] at hd
  have he := fun W : World => repochs_any W s
  unfold EpochsPost at he
  rw [if_pos hfe, if_pos hfe, if_pos hfe] at he
  have hwl : whatL g a s = wFence ++ listL [numAt s 4 4, numAt s 8 4] := by
    unfold whatL
    rw [if_neg hnb, if_neg hns, if_pos hfe]
  have hx := numAt_lt s 4
  have hy := numAt_lt s 8
  obtain ⟨x, hx'⟩ : ∃ x, numAt s 4 4 = x := ⟨_, rfl⟩
  obtain ⟨y, hy'⟩ : ∃ x, numAt s 8 4 = x := ⟨_, rfl⟩
  rw [hx'] at he hx hwl
  rw [hy'] at he hy hwl
  have hall : ∀ n ∈ [x, y], n < 9223372036854775808 := by intro n hn; simp only [List.mem_cons, List.not_mem_nil, or_false] at hn; omega
  have hI : ∀ (W : World) (b : Nat), W.heap[b]? = some (.cells #[.int .i64 (x : Int), .int .i64 (y : Int)] 57 (0, 0)) → Ints W (.slice (some ⟨b, 0, none⟩) 2 2) [(x : Int), (y : Int)] := fun W b hW => ints_block (o := 0) hW (fun j n hj => by
    match j, hj with
    | 0, hj => have e : (x : Int) = n := by simpa using hj
               rw [← e]; rfl
    | 1, hj => have e : (y : Int) = n := by simpa using hj
               rw [← e]; rfl
    | q + 2, hj => simp at hj) (by unfold maxLen; simp) rfl
  have hn := fun (W : World) (b : Nat) hW => rlist_any W _ [x, y] (hI W b hW) (by simp) hall
  have hcat := text_cat wFence (listL [x, y])
  have hlz : (ofL (listL [x, y])).size ≤ 40 := by rw [ofL_size]; exact listL_le [x, y] hall
  have hY : ∀ w', Below w.heap.size w w' → WhatPost g a s w (.returned (.string (ofL (wFence ++ listL [x, y])))) w' := fun w' hb => ⟨by rw [hwl], hb⟩
  obtain ⟨T, hT⟩ : ∃ T, ofL (wFence ++ listL [x, y]) = T := ⟨_, rfl⟩
  obtain ⟨L, hL⟩ : ∃ T, ofL (listL [x, y]) = T := ⟨_, rfl⟩
  rw [hT] at hcat hY
  rw [hL] at hn hcat hlz
  change (⟨#[102, 101, 110, 99, 101]⟩ : ByteArray) ++ L = T at hcat
  have hlim : ¬ 9223372036854775807 < 5 + L.size := by omega
  have q := list_eq s Sp.blank
  have f : (s.toList == Sp.blank.toList) = false := q.trans (decide_eq_false hnb)
  obtain ⟨Q, hQ⟩ : ∃ Q, WhatPost g a s w = Q := ⟨_, rfl⟩
  rw [hQ] at hY ⊢
  obtain ⟨BK, hBK⟩ : ∃ x, Sp.blank = x := ⟨_, rfl⟩
  rw [hBK] at f
  have HBK : Hid (ofL (zeros 64) = BK) := hBK
  clear q hnb hns hfe hQ hBK hT hL hx hy hx' hy' hwl hI hall hlz
  obtain ⟨ga, gb, gc⟩ := g
  unfold gV at hd ⊢
  have HD := Lib.hid hd
  have HE := Lib.hid he
  have HN := Lib.hid hn
  have HY := Lib.hid hY
  clear hd he hn hY
  obtain ⟨W0, hW0⟩ : ∃ W, w.alloc (.cells #[.int .i64 ga, .int .i64 gb, .int .i64 gc] 23) = W := ⟨_, rfl⟩
  have hk := g_keep hW0
  have HB0 := Lib.hid hk.1
  have HK := Lib.hid hk.2
  clear hk
  obtain ⟨ia, ib, ic, id, ie⟩ := info_parts infoU8
  have hmk := run_make_bytes (P := Tryz.prog) W0 Tryz.underlying42 ib ic id ie 64 (by decide)
  have hcv := run_bytes_text (P := Tryz.prog) (W0.alloc (bytesO (zeros 64) 5 (0, 0))) (src := 42) (dst := 9) (z := []) (l := zeros 64) (n := 64) Tryz.underlying42 Tryz.underlying5 Tryz.underlying9 (by rw [List.append_nil]; exact heapNew W0 _) (zeros_length 64).symm 64
  rw [HBK.out] at hcv
  obtain ⟨W1, hW1⟩ : ∃ W, W0.alloc (bytesO (zeros 64) 5 (0, 0)) = W := ⟨_, rfl⟩
  have HB1 : Hid (Below W0.heap.size W0 W1) := by rw [← hW1]; exact bl2 _
  rw [hW1] at hmk hcv
  change (Instr.makeSlice _ (.int .i64 64) (.int .i64 64)).run _ _ = _ at hmk
  clear hW1 ia ib ic id ie
  go_enter Tryz.func25, Tryz.ntmps25
  go_wp2_with fail
  refine (HD.out _).mono ?_
  rintro e w2 ⟨rfl, hb2⟩
  have HB2 := Lib.hid (blN HB1.out hb2)
  clear hb2
  clear hmk hcv
  go_wp2_with fail
  refine (HE.out _).mono ?_
  rintro e w3 ⟨rfl, hb3⟩
  have HB3 := Lib.hid (blN (bl1 HB2.out _) hb3)
  clear hb3
  go_wp2_with fail
  refine (HN.out _ _ ?a1).mono ?_
  case a1 => exact heapNew _ _
  rintro e w4 ⟨rfl, hb4⟩
  have HF := Lib.hid (HY.out _ (blN (blN HB0.out (bl1 HB3.out _)) hb4))
  clear hb4
  go_wp2
  first | exact HF.out | (go_ret2; exact HF.out) | (go_ret; exact HF.out)
theorem rwhat_any (w : World) (g : Sp.Geom) (a : Int) (s : ByteArray) (hg : g.ok) (h0 : 0 ≤ a) (h1 : a < g.size) (hs : s.size = 64) :
    Calls Tryz.prog 25 #[gV g, .int .i64 a, .string s] w (WhatPost g a s w) := by
  by_cases hb : s = Sp.blank
  · exact rwhat_blank w g a s hb
  by_cases hsu : isSuper s
  · exact rwhat_super w g a s hb hsu
  by_cases hfe : isFence s
  · exact rwhat_fence w g a s hb hsu hfe
  exact rwhat_kind w g a s hg h0 h1 hs hb hsu hfe
end
end Go.Proofs.YtbjhicnjeefiaaaGreatDoor

namespace Go.Proofs.YtbjhicnjeefiaaaGreatDoor
open Go Go.RowKit Txt Sp

section
set_option maxHeartbeats 8000000
set_option maxRecDepth 20000 in
theorem rshape_any (w : World) (g : Sp.Geom) (v : Value) (l : List ByteArray) (hv : Texts w v l) : Calls Tryz.prog 5 #[gV g, v] w fun e w' => e = .returned (.bool (decide (shapeP g l))) ∧ Below w.heap.size w w' := by
  have hc := fun W : World => rgcheck_any W g
  have hz := fun W : World => rgsize_any W g
  obtain ⟨ad, n, cap, rfl, HN, hn2, HF⟩ := texts_facts hv
  have HNo : Hid (¬ shapeP g l → ∀ w', Below w.heap.size w w' → (fun (e : Ending) (w' : World) => e = .returned (.bool (decide (shapeP g l))) ∧ Below w.heap.size w w') (.returned (.bool false)) w') := fun h w' hb => ⟨by rw [decide_eq_false h], hb⟩
  have HYes : Hid (shapeP g l → ∀ w', Below w.heap.size w w' → (fun (e : Ending) (w' : World) => e = .returned (.bool (decide (shapeP g l))) ∧ Below w.heap.size w w') (.returned (.bool true)) w') := fun h w' hb => ⟨by rw [decide_eq_true h], hb⟩
  obtain ⟨Q, hQ⟩ : ∃ Q, (fun (e : Ending) (w' : World) => e = .returned (.bool (decide (shapeP g l))) ∧ Below w.heap.size w w') = Q := ⟨_, rfl⟩
  rw [hQ] at HNo HYes ⊢
  clear hQ hv
  by_cases hg : g.ok
  rotate_left
  · rw [Geom.check_no hg] at hc
    have HF0 := Lib.hid (HNo.out (fun h => hg h.1))
    clear hg hz HNo HYes
    obtain ⟨ga, gb, gc⟩ := g
    unfold gV at hc ⊢
    have HC := Lib.hid hc
    clear hc
    obtain ⟨W0, hW0⟩ : ∃ W, w.alloc (.cells #[.int .i64 ga, .int .i64 gb, .int .i64 gc] 23) = W := ⟨_, rfl⟩
    have hk := g_keep hW0
    have HB0 := Lib.hid hk.1
    have HK := Lib.hid hk.2
    clear hk
    obtain ⟨z0, z1, z2⟩ := HK.out W0 (Below.refl _ _)
    go_enter Tryz.func5, Tryz.ntmps5
    go_wp2_with fail
    refine (HC.out _).mono ?_
    rintro e w1 ⟨rfl, hb1⟩
    have HB1 := Lib.hid (blN (Below.refl _ _) hb1)
    clear hb1
    clear z0 z1 z2
    go_wp2
    first | exact HF0.out _ (blN HB0.out HB1.out) | (go_ret2; exact HF0.out _ (blN HB0.out HB1.out)) | (go_ret; exact HF0.out _ (blN HB0.out HB1.out))
  rw [Geom.check_ok hg] at hc
  obtain ⟨z, hz0⟩ : ∃ z, g.size = z := ⟨_, rfl⟩
  rw [hz0] at hz
  by_cases hn : (n : Int) = z
  rotate_left
  · have HF0 := Lib.hid (HNo.out (fun h => hn (by rw [HN.out, ← hz0]; exact h.2.1)))
    have f1 : ((n : Int) == z) = false := beq_eq_false_iff_ne.2 hn
    have f2 : ((n : Int) != z) = true := by rw [bne, f1]; rfl
    clear hg HNo HYes hz0 hn
    obtain ⟨ga, gb, gc⟩ := g
    unfold gV at hc hz ⊢
    have HC := Lib.hid hc
    have HZ := Lib.hid hz
    clear hc hz
    obtain ⟨W0, hW0⟩ : ∃ W, w.alloc (.cells #[.int .i64 ga, .int .i64 gb, .int .i64 gc] 23) = W := ⟨_, rfl⟩
    have hk := g_keep hW0
    have HB0 := Lib.hid hk.1
    have HK := Lib.hid hk.2
    clear hk
    obtain ⟨z0, z1, z2⟩ := HK.out W0 (Below.refl _ _)
    go_enter Tryz.func5, Tryz.ntmps5
    go_wp2_with fail
    refine (HC.out _).mono ?_
    rintro e w1 ⟨rfl, hb1⟩
    have HB1 := Lib.hid (blN (Below.refl _ _) hb1)
    clear hb1
    clear z0 z1 z2
    obtain ⟨z0, z1, z2⟩ := HK.out w1 HB1.out
    go_wp2_with fail
    refine (HZ.out _).mono ?_
    rintro e w2 ⟨rfl, hb2⟩
    have HB2 := Lib.hid (blN HB1.out hb2)
    clear hb2
    clear z0 z1 z2
    go_wp2
    first | exact HF0.out _ (blN HB0.out HB2.out) | (go_ret2; exact HF0.out _ (blN HB0.out HB2.out)) | (go_ret; exact HF0.out _ (blN HB0.out HB2.out))
  have HBad : Hid (∀ x ∈ l, x.size ≠ 64 → ∀ w', Below w.heap.size w w' → Q (.returned (.bool false)) w') := fun x hx h => HNo.out (fun h2 => h (h2.2.2 x hx))
  have HGood : Hid ((∀ x ∈ l, x.size = 64) → ∀ w', Below w.heap.size w w' → Q (.returned (.bool true)) w') := fun h => HYes.out ⟨hg, by rw [hz0, ← HN.out]; exact hn, h⟩
  subst hn
  have f1 : ((n : Int) == (n : Int)) = true := beq_self_eq_true _
  have f2 : ((n : Int) != (n : Int)) = false := by rw [bne, f1]; rfl
  clear hg HNo HYes hz0
  obtain ⟨ga, gb, gc⟩ := g
  unfold gV at hc hz ⊢
  have HC := Lib.hid hc
  have HZ := Lib.hid hz
  clear hc hz
  obtain ⟨W0, hW0⟩ : ∃ W, w.alloc (.cells #[.int .i64 ga, .int .i64 gb, .int .i64 gc] 23) = W := ⟨_, rfl⟩
  have hk := g_keep hW0
  have HB0 := Lib.hid hk.1
  have HK := Lib.hid hk.2
  clear hk
  obtain ⟨z0, z1, z2⟩ := HK.out W0 (Below.refl _ _)
  go_enter Tryz.func5, Tryz.ntmps5
  go_wp2_with fail
  refine (HC.out _).mono ?_
  rintro e w1 ⟨rfl, hb1⟩
  have HB1 := Lib.hid (blN (Below.refl _ _) hb1)
  clear hb1
  clear z0 z1 z2
  obtain ⟨z0, z1, z2⟩ := HK.out w1 HB1.out
  go_wp2_with fail
  refine (HZ.out _).mono ?_
  rintro e w2 ⟨rfl, hb2⟩
  have HB2 := Lib.hid (blN HB1.out hb2)
  clear hb2
  clear z0 z1 z2
  have HA0 : Hid (∀ x ∈ l.take 0, x.size = 64) := Lib.hid (by simp)
  have HB3 : Hid (Below w.heap.size w w2) := blN HB0.out HB2.out
  go_wp2
  go_loopw [5] (fun i wr => ∃ k : Nat, k ≤ n ∧ i = .int .i64 (k : Int) ∧ Hid (∀ x ∈ l.take k, x.size = 64) ∧ Hid (Below w.heap.size w wr)) (fun i _ => n - (intOf i).toNat)
  case atStart => exact ⟨0, Nat.zero_le _, rfl, HA0, HB3⟩
  case round =>
    obtain ⟨k, hk, rfl, HA, HB⟩ := hrel
    clear HA0 HB3 f1 f2
    by_cases hlt : k < n
    · obtain ⟨b, o, x, rfl, hb, hx, hc⟩ := HF.out k hlt
      have c0 : wr.cell? ⟨b, o + k, none⟩ = some (.string x) := (HB.out.cell (p := ⟨b, o + k, none⟩) hb).trans hc
      have hk2 : (k : Int) < (n : Int) := by omega
      have HBx := Lib.hid (HBad.out x (List.mem_of_getElem? hx))
      by_cases hs : x.size = 64
      · have HA2 := Lib.hid (take_all HA.out hx hs)
        have f3 : ((x.size : Int) == 64) = true := by rw [hs]; rfl
        have f4 : ((x.size : Int) != 64) = false := by rw [bne, f3]; rfl
        clear hx hc hs
        go_wp2
        clear c0
        go_roundw
        case rel => exact ⟨k + 1, by omega, by go_num, HA2, HB⟩
        case measure => simp [intOf]; omega
      · have f3 : ((x.size : Int) == 64) = false := beq_eq_false_iff_ne.2 (by omega)
        have f4 : ((x.size : Int) != 64) = true := by rw [bne, f3]; rfl
        have HF1 := Lib.hid (HBx.out hs _ HB.out)
        clear hx hc hs
        go_wp2
        first | exact HF1.out | (go_ret2; exact HF1.out) | (go_ret; exact HF1.out)
    · obtain rfl : k = n := by omega
      have ha := HA.out
      rw [List.take_of_length_le (by rw [HN.out]; exact Nat.le_refl _)] at ha
      have HF1 := Lib.hid (HGood.out ha _ HB.out)
      have hk3 : ¬ k < k := by omega
      clear ha
      go_wp2
      first | exact HF1.out | (go_ret2; exact HF1.out) | (go_ret; exact HF1.out)
end
end Go.Proofs.YtbjhicnjeefiaaaGreatDoor

namespace Go.Proofs.YtbjhicnjeefiaaaGreatDoor
open Go Go.RowKit Txt Sp

section
set_option maxHeartbeats 8000000
set_option maxRecDepth 20000 in
theorem rline_any (w : World) (g : Sp.Geom) (a : Int) (s : ByteArray) :
    Calls Tryz.prog 12 #[gV g, .int .i64 a, .string s] w (LinePost g a s w) := by
  have hch := fun W : World => rgcheck_any W g
  have hsi := fun W : World => rgsize_any W g
  by_cases hok : g.ok ∧ 0 ≤ a ∧ a < g.size ∧ s.size = 64
  · obtain ⟨hg, h0, h1, hs⟩ := hok
    have hsz := Geom.size_bd hg
    have hc : lineC g a s = 0 := if_pos ⟨hg, h0, h1, hs⟩
    obtain ⟨n, hn⟩ : ∃ n : Nat, a = (n : Int) := ⟨a.toNat, by omega⟩
    have hw := fun W : World => rwhat_any W g a s hg h0 h1 hs
    unfold WhatPost at hw
    have hd := fun W : World => rdigits_any W n (by omega)
    rw [← hn] at hd
    have hwl := whatL_le (a := a) hg hs
    have hdl := digitsL_le (n := n) (by omega)
    have hcat1 := text_cat (digitsL n) [32]
    have hcat2 := text_cat (digitsL n ++ [32]) (whatL g a s)
    have hb1 : (ofL (digitsL n)).size ≤ 19 := by rw [ofL_size]; exact hdl
    have hb2 : (ofL (digitsL n ++ [32])).size ≤ 20 := by rw [ofL_size, List.length_append, List.length_singleton]; omega
    have hb3 : (ofL (whatL g a s)).size ≤ 3000 := by rw [ofL_size]; exact hwl
    have hY : ∀ w', Below w.heap.size w w' → LinePost g a s w (.returned (.tuple #[.string (ofL (digitsL n ++ [32] ++ whatL g a s)), .int .i64 0])) w' := fun w' hb => by
      refine ⟨?_, hb⟩
      unfold lineN
      rw [hc, if_pos rfl]
      unfold lineL
      rw [hn, Int.toNat_natCast, List.append_assoc]
      rfl
    obtain ⟨Q, hQ⟩ : ∃ Q, LinePost g a s w = Q := ⟨_, rfl⟩
    rw [hQ] at hY ⊢
    obtain ⟨D, hD⟩ : ∃ T, ofL (digitsL n) = T := ⟨_, rfl⟩
    obtain ⟨E, hE⟩ : ∃ T, ofL (digitsL n ++ [32]) = T := ⟨_, rfl⟩
    obtain ⟨X, hX⟩ : ∃ T, ofL (whatL g a s) = T := ⟨_, rfl⟩
    obtain ⟨R, hR⟩ : ∃ T, ofL (digitsL n ++ [32] ++ whatL g a s) = T := ⟨_, rfl⟩
    rw [hD] at hd hb1 hcat1
    rw [hE] at hcat1 hcat2 hb2
    rw [hX] at hw hcat2 hb3
    rw [hR] at hcat2 hY
    change D ++ (⟨#[32]⟩ : ByteArray) = E at hcat1
    have l1 : ¬ 9223372036854775807 < D.size + 1 := by omega
    have l2 : ¬ 9223372036854775807 < E.size + X.size := by omega
    rw [Geom.check_ok hg] at hch
    obtain ⟨z, hz⟩ : ∃ z, g.size = z := ⟨_, rfl⟩
    rw [hz] at hsi h1
    have f1 : decide (a < 0) = false := decide_eq_false (by omega)
    have f2 : decide (z ≤ a) = false := decide_eq_false (by omega)
    have f2' : decide (a ≥ z) = false := decide_eq_false (by omega)
    have f3 : ¬ a < 0 := by omega
    have f4 : ¬ z ≤ a := by omega
    have f5 : ((s.size : Int) == 64) = true := by rw [hs]; rfl
    have f6 : ((s.size : Int) != 64) = false := by rw [bne, f5]; rfl
    clear hQ hD hE hX hR hz hg hs h0 h1 hn hwl hdl hb1 hb2 hb3 hc hsz
    obtain ⟨ga, gb, gc⟩ := g
    unfold gV at hch hsi hw ⊢
    have HCH := Lib.hid hch
    have HSI := Lib.hid hsi
    have HW := Lib.hid hw
    have HD := Lib.hid hd
    have HY := Lib.hid hY
    clear hch hsi hw hd hY
    obtain ⟨W0, hW0⟩ : ∃ W, w.alloc (.cells #[.int .i64 ga, .int .i64 gb, .int .i64 gc] 23) = W := ⟨_, rfl⟩
    have hk := g_keep hW0
    have HB0 := Lib.hid hk.1
    have HK := Lib.hid hk.2
    clear hk
    obtain ⟨z0, z1, z2⟩ := HK.out W0 (Below.refl _ _)
    go_enter Tryz.func12, Tryz.ntmps12
    go_wp2_with fail
    refine (HCH.out _).mono ?_
    rintro e w1 ⟨rfl, hb1⟩
    have HB1 := Lib.hid (blN (Below.refl _ _) hb1)
    clear hb1
    clear z0 z1 z2
    obtain ⟨z0, z1, z2⟩ := HK.out w1 HB1.out
    go_wp2_with fail
    refine (HSI.out _).mono ?_
    rintro e w2 ⟨rfl, hb2⟩
    have HB2 := Lib.hid (blN HB1.out hb2)
    clear hb2
    clear z0 z1 z2
    go_wp2_with fail
    clear f1 f2 f2' f3 f4 f5 f6
    go_region_held3 (fun W => W.cell? ⟨w.heap.size, 0, none⟩ = some (.int .i64 ga) ∧ W.cell? ⟨w.heap.size, 1, none⟩ = some (.int .i64 gb) ∧ W.cell? ⟨w.heap.size, 2, none⟩ = some (.int .i64 gc))
      ((refine HK.out _ ?_; repeat' first | with_reducible exact HB2.out | with_reducible exact HB3.out | with_reducible exact HB4.out | with_reducible refine blD ?_ | with_reducible refine bl1 ?_ _))
      (first
        | (go_at_call 24
           refine (HD.out _).mono ?_
           rintro e w3 ⟨rfl, hb3⟩
           have HB3 : Hid (Below W0.heap.size W0 w3) := blN (by repeat' first | with_reducible exact HB2.out | with_reducible exact HB4.out | with_reducible refine blD ?_ | with_reducible refine bl1 ?_ _) hb3
           clear hb3
           simp only)
        | (go_at_call 25
           refine (HW.out _).mono ?_
           rintro e w4 ⟨rfl, hb4⟩
           have HB4 : Hid (Below W0.heap.size W0 w4) := blN (by repeat' first | with_reducible exact HB2.out | with_reducible exact HB3.out | with_reducible refine blD ?_ | with_reducible refine bl1 ?_ _) hb4
           clear hb4
           simp only))
    all_goals
      go_wp2
      first | exact HY.out _ (blN HB0.out HB4.out) | exact HY.out _ (blN HB0.out HB3.out) | (go_ret2; first | exact HY.out _ (blN HB0.out HB4.out) | exact HY.out _ (blN HB0.out HB3.out))
  have HNo : Hid (∀ w', Below w.heap.size w w' → LinePost g a s w (.returned (.tuple #[.string ⟨#[]⟩, .int .i64 4])) w') := fun w' hb => by
    have hc : lineC g a s = 4 := if_neg hok
    unfold LinePost lineN
    rw [hc, if_neg (by decide)]
    exact ⟨rfl, hb⟩
  obtain ⟨Q, hQ⟩ : ∃ Q, LinePost g a s w = Q := ⟨_, rfl⟩
  rw [hQ] at HNo ⊢
  clear hQ
  by_cases hg : g.ok
  rotate_left
  · rw [Geom.check_no hg] at hch
    clear hok hg hsi
    obtain ⟨ga, gb, gc⟩ := g
    unfold gV at hch ⊢
    have HCH := Lib.hid hch
    clear hch
    obtain ⟨W0, hW0⟩ : ∃ W, w.alloc (.cells #[.int .i64 ga, .int .i64 gb, .int .i64 gc] 23) = W := ⟨_, rfl⟩
    have hk := g_keep hW0
    have HB0 := Lib.hid hk.1
    have HK := Lib.hid hk.2
    clear hk
    obtain ⟨z0, z1, z2⟩ := HK.out W0 (Below.refl _ _)
    go_enter Tryz.func12, Tryz.ntmps12
    go_wp2_with fail
    refine (HCH.out _).mono ?_
    rintro e w1 ⟨rfl, hb1⟩
    have HB1 := Lib.hid (blN (Below.refl _ _) hb1)
    clear hb1
    clear z0 z1 z2
    go_wp2
    first | exact HNo.out _ (blN HB0.out HB1.out) | (go_ret2; exact HNo.out _ (blN HB0.out HB1.out))
  rw [Geom.check_ok hg] at hch
  by_cases h0 : a < 0
  · clear hok hg hsi
    have f1 : decide (a < 0) = true := decide_eq_true h0
    obtain ⟨ga, gb, gc⟩ := g
    unfold gV at hch ⊢
    have HCH := Lib.hid hch
    clear hch
    obtain ⟨W0, hW0⟩ : ∃ W, w.alloc (.cells #[.int .i64 ga, .int .i64 gb, .int .i64 gc] 23) = W := ⟨_, rfl⟩
    have hk := g_keep hW0
    have HB0 := Lib.hid hk.1
    have HK := Lib.hid hk.2
    clear hk
    obtain ⟨z0, z1, z2⟩ := HK.out W0 (Below.refl _ _)
    go_enter Tryz.func12, Tryz.ntmps12
    go_wp2_with fail
    refine (HCH.out _).mono ?_
    rintro e w1 ⟨rfl, hb1⟩
    have HB1 := Lib.hid (blN (Below.refl _ _) hb1)
    clear hb1
    clear z0 z1 z2
    go_wp2
    first | exact HNo.out _ (blN HB0.out HB1.out) | (go_ret2; exact HNo.out _ (blN HB0.out HB1.out))
  have hz : g.size ≤ a ∨ a < g.size ∧ s.size ≠ 64 := by
    by_cases h : a < g.size
    · exact Or.inr ⟨h, fun h2 => hok ⟨hg, by omega, h, h2⟩⟩
    · exact Or.inl (by omega)
  obtain ⟨z, hz0⟩ : ∃ z, g.size = z := ⟨_, rfl⟩
  rw [hz0] at hsi hz
  have f1 : decide (a < 0) = false := decide_eq_false h0
  clear hok hg hz0
  obtain ⟨ga, gb, gc⟩ := g
  unfold gV at hch hsi ⊢
  have HCH := Lib.hid hch
  have HSI := Lib.hid hsi
  clear hch hsi
  obtain ⟨W0, hW0⟩ : ∃ W, w.alloc (.cells #[.int .i64 ga, .int .i64 gb, .int .i64 gc] 23) = W := ⟨_, rfl⟩
  have hk := g_keep hW0
  have HB0 := Lib.hid hk.1
  have HK := Lib.hid hk.2
  clear hk
  by_cases h1 : z ≤ a
  · have f2 : decide (a ≥ z) = true := decide_eq_true h1
    have f2' : decide (z ≤ a) = true := decide_eq_true h1
    obtain ⟨z0, z1, z2⟩ := HK.out W0 (Below.refl _ _)
    go_enter Tryz.func12, Tryz.ntmps12
    go_wp2_with fail
    refine (HCH.out _).mono ?_
    rintro e w1 ⟨rfl, hb1⟩
    have HB1 := Lib.hid (blN (Below.refl _ _) hb1)
    clear hb1
    clear z0 z1 z2
    obtain ⟨z0, z1, z2⟩ := HK.out w1 HB1.out
    go_wp2_with fail
    refine (HSI.out _).mono ?_
    rintro e w2 ⟨rfl, hb2⟩
    have HB2 := Lib.hid (blN HB1.out hb2)
    clear hb2
    clear z0 z1 z2
    go_wp2
    first | exact HNo.out _ (blN HB0.out HB2.out) | (go_ret2; exact HNo.out _ (blN HB0.out HB2.out))
  · have f2 : decide (a ≥ z) = false := decide_eq_false h1
    have f2' : decide (z ≤ a) = false := decide_eq_false h1
    have hs : s.size ≠ 64 := by
      rcases hz with h | h
      · exact absurd h h1
      · exact h.2
    have f3 : ((s.size : Int) == 64) = false := beq_eq_false_iff_ne.2 (by omega)
    have f4 : ((s.size : Int) != 64) = true := by rw [bne, f3]; rfl
    obtain ⟨z0, z1, z2⟩ := HK.out W0 (Below.refl _ _)
    go_enter Tryz.func12, Tryz.ntmps12
    go_wp2_with fail
    refine (HCH.out _).mono ?_
    rintro e w1 ⟨rfl, hb1⟩
    have HB1 := Lib.hid (blN (Below.refl _ _) hb1)
    clear hb1
    clear z0 z1 z2
    obtain ⟨z0, z1, z2⟩ := HK.out w1 HB1.out
    go_wp2_with fail
    refine (HSI.out _).mono ?_
    rintro e w2 ⟨rfl, hb2⟩
    have HB2 := Lib.hid (blN HB1.out hb2)
    clear hb2
    clear z0 z1 z2
    go_wp2
    first | exact HNo.out _ (blN HB0.out HB2.out) | (go_ret2; exact HNo.out _ (blN HB0.out HB2.out))
end
end Go.Proofs.YtbjhicnjeefiaaaGreatDoor

namespace Go.Proofs.YtbjhicnjeefiaaaGreatDoor
open Go Go.RowKit Txt Sp

section
set_option maxHeartbeats 8000000
set_option maxRecDepth 20000 in
theorem rtextN_any (w : World) (g : Sp.Geom) (v : Value) (l : List ByteArray) (hv : Texts w v l) :
    Calls Tryz.prog 8 #[gV g, v] w (TextPost g l w) := by
  have hsh := fun (W : World) (hW : Below w.heap.size w W) => rshape_any W g v l (hv.below hW)
  by_cases hsp : shapeP g l
  rotate_left
  · have HNo : Hid (∀ w', Below w.heap.size w w' → TextPost g l w (.returned (.tuple #[.string ⟨#[]⟩, .int .i64 4])) w') := fun w' hb => by
      unfold TextPost textN
      rw [if_neg hsp]
      exact ⟨rfl, hb⟩
    rw [decide_eq_false hsp] at hsh
    obtain ⟨Q, hQ⟩ : ∃ Q, TextPost g l w = Q := ⟨_, rfl⟩
    rw [hQ] at HNo ⊢
    obtain ⟨ga, gb, gc⟩ := g
    unfold gV at hsh ⊢
    have HSH := Lib.hid hsh
    clear hsh
    clear hsp hQ hv
    obtain ⟨W0, hW0⟩ : ∃ W, w.alloc (.cells #[.int .i64 ga, .int .i64 gb, .int .i64 gc] 23) = W := ⟨_, rfl⟩
    have hk := g_keep hW0
    have HB0 := Lib.hid hk.1
    have HK := Lib.hid hk.2
    clear hk
    obtain ⟨z0, z1, z2⟩ := HK.out W0 (Below.refl _ _)
    go_enter Tryz.func8, Tryz.ntmps8
    go_wp2_with fail
    refine (HSH.out _ HB0.out).mono ?_
    rintro e w1 ⟨rfl, hb1⟩
    have HB1 := Lib.hid (blN HB0.out hb1)
    clear z0 z1 z2 hb1
    go_wp2
    first | exact HNo.out _ HB1.out | (go_ret2; exact HNo.out _ HB1.out)
  rw [decide_eq_true hsp] at hsh
  have hgo := hsp.1
  have hlen := hsp.2.1
  have hall := hsp.2.2
  have hsz := Geom.size_bd hgo
  have HYes : Hid (∀ w', Below w.heap.size w w' → TextPost g l w (.returned (.tuple #[.string (ofL (textFrom 0 g l)), .int .i64 0])) w') := fun w' hb => by
    unfold TextPost textN
    rw [if_pos hsp]
    exact ⟨rfl, hb⟩
  obtain ⟨Q, hQ⟩ : ∃ Q, TextPost g l w = Q := ⟨_, rfl⟩
  rw [hQ] at HYes ⊢
  have hwhat := fun (a : Nat) (s : ByteArray) (ha : l[a]? = some s) (W : World) => rwhat_any W g (a : Int) s hgo (by omega) (by rw [← hlen]; have := (List.getElem?_eq_some_iff.1 ha).1; omega) (hall s (List.mem_of_getElem? ha))
  unfold WhatPost at hwhat
  have hwle : ∀ (a : Nat) (s : ByteArray), l[a]? = some s → (whatL g (a : Int) s).length ≤ 3000 := fun a s ha => whatL_le hgo (hall s (List.mem_of_getElem? ha))
  have hlle : ∀ (a : Nat) (s : ByteArray), l[a]? = some s → (lineL g a s).length ≤ 3020 := fun a s ha => lineL_le hgo (by rw [← hlen]; have := (List.getElem?_eq_some_iff.1 ha).1; omega) (hall s (List.mem_of_getElem? ha))
  have hsn : ∀ (a : Nat) (s : ByteArray), l[a]? = some s → textFrom 0 g (l.take (a + 1)) = textFrom 0 g (l.take a) ++ lineL g a s ++ [10] := fun a s ha => by
    have h1 : (l.take a).length = a := by rw [List.length_take]; have := (List.getElem?_eq_some_iff.1 ha).1; omega
    rw [take_step ha, textFrom_snoc, h1, Nat.zero_add]
  have hls : ∀ (a : Nat) (s : ByteArray), lineL g a s = digitsL a ++ [32] ++ whatL g (a : Int) s := fun a s => by
    unfold lineL
    rw [Int.toNat_natCast, List.append_assoc]
    rfl
  have htle : ∀ a, a ≤ l.length → (textFrom 0 g (l.take a)).length ≤ 3021 * a := fun a => by
    induction a with
    | zero => intro _; simp [textFrom]
    | succ a ih =>
      intro ha
      have h1 := hsn a l[a] (by simp)
      have h2 := hlle a l[a] (by simp)
      have h3 := ih (by omega)
      rw [h1, List.length_append, List.length_append, List.length_singleton]
      omega
  have hl403 : l.length ≤ 403 := by omega
  obtain ⟨ad, N, cap, rfl, HN, hn2, HF⟩ := texts_facts hv
  simp only [hls] at hsn
  obtain ⟨F, hF⟩ : ∃ F : Nat → ByteArray → List UInt8, (fun (a : Nat) s => whatL g (a : Int) s) = F := ⟨_, rfl⟩
  have hFe : ∀ (a : Nat) s, whatL g (a : Int) s = F a s := fun a s => by rw [← hF]
  simp only [hFe] at hwhat hwle hsn
  obtain ⟨TX, hTX⟩ : ∃ TX : Nat → List UInt8, (fun a => textFrom 0 g (l.take a)) = TX := ⟨_, rfl⟩
  have hTe : ∀ a, textFrom 0 g (l.take a) = TX a := fun a => by rw [← hTX]
  have hT0 : TX 0 = [] := by rw [← hTX]; simp [textFrom]
  have hTl : textFrom 0 g l = TX N := by rw [← hTX, HN.out]; simp
  simp only [hTe] at hsn htle
  rw [hTl] at HYes
  have hdig := fun (W : World) (x : Nat) (hx : x < 9223372036854775808) => rdigits_any W x hx
  have HL := Lib.hid hl403
  have HT0 : Hid (ofL (TX 0) = (⟨#[]⟩ : ByteArray)) := by rw [hT0]; exact Lib.hid rfl
  obtain ⟨ga, gb, gc⟩ := g
  unfold gV at hsh hwhat ⊢
  have HSH := Lib.hid hsh
  have HWHAT := Lib.hid hwhat
  have HWLE := Lib.hid hwle
  have HSN := Lib.hid hsn
  have HTLE := Lib.hid htle
  have HDIG := Lib.hid hdig
  clear hsh hwhat hwle hsn htle hdig
  clear hsp hQ hv hgo hlen hall hsz hF hFe hTX hTe hTl hl403 hls hlle hT0
  obtain ⟨W0, hW0⟩ : ∃ W, w.alloc (.cells #[.int .i64 ga, .int .i64 gb, .int .i64 gc] 23) = W := ⟨_, rfl⟩
  have hk := g_keep hW0
  have HB0 := Lib.hid hk.1
  have HK := Lib.hid hk.2
  clear hk
  obtain ⟨z0, z1, z2⟩ := HK.out W0 (Below.refl _ _)
  go_enter Tryz.func8, Tryz.ntmps8
  go_wp2_with fail
  refine (HSH.out _ HB0.out).mono ?_
  rintro e w1 ⟨rfl, hb1⟩
  clear z0 z1 z2
  have HB1 : Hid (Below W0.heap.size W0 w1) := hb1
  clear hb1
  go_wp2
  go_loopw [6, 7] (fun t i wr => ∃ k : Nat, k ≤ N ∧ i = .int .i64 (k : Int) ∧ t = .string (ofL (TX k)) ∧ Hid (Below W0.heap.size W0 wr)) (fun _ i _ => N - (intOf i).toNat)
  case atStart => exact ⟨0, Nat.zero_le _, rfl, congrArg Value.string HT0.out.symm, HB1⟩
  case round =>
    obtain ⟨k, hk, rfl, rfl, HB⟩ := hrel
    clear HT0 HSH
    by_cases hlt : k < N
    · obtain ⟨b, o, x, rfl, hb, hx, hc⟩ := HF.out k hlt
      have hk2 : (k : Int) < (N : Int) := by omega
      have HCell : Hid (∀ W, Below W0.heap.size W0 W → (W.cell? ⟨w.heap.size, 0, none⟩ = some (.int .i64 ga) ∧ W.cell? ⟨w.heap.size, 1, none⟩ = some (.int .i64 gb) ∧ W.cell? ⟨w.heap.size, 2, none⟩ = some (.int .i64 gc)) ∧ W.cell? ⟨b, o + k, none⟩ = some (.string x)) := fun W hW => ⟨HK.out W hW, ((blN HB0.out hW).cell (p := ⟨b, o + k, none⟩) hb).trans hc⟩
      have hN403 := HL.out
      rw [← HN.out] at hN403
      have htl := HTLE.out k (by rw [← HN.out]; omega)
      have hsn := HSN.out k x hx
      have hwl := HWLE.out k x hx
      have hw := HWHAT.out k x hx
      have hd := fun W : World => HDIG.out W k (by omega)
      have hdl := digitsL_le (n := k) (by omega)
      obtain ⟨FX, hFX⟩ : ∃ L, F k x = L := ⟨_, rfl⟩
      rw [hFX] at hsn hwl hw
      have hcat1 := text_cat (digitsL k) [32]
      have hcat2 := text_cat (digitsL k ++ [32]) FX
      have hcat3 := text_cat (digitsL k ++ [32] ++ FX) [10]
      have hcat4 := text_cat (TX k) (digitsL k ++ [32] ++ FX ++ [10])
      rw [← List.append_assoc, ← hsn] at hcat4
      have s1 : (ofL (digitsL k)).size ≤ 19 := by rw [ofL_size]; exact hdl
      have s2 : (ofL (digitsL k ++ [32])).size ≤ 20 := by rw [ofL_size, List.length_append, List.length_singleton]; omega
      have s3 : (ofL FX).size ≤ 3000 := by rw [ofL_size]; exact hwl
      have s4 : (ofL (digitsL k ++ [32] ++ FX)).size ≤ 3020 := by rw [ofL_size, List.length_append, List.length_append, List.length_singleton]; omega
      have s5 : (ofL (digitsL k ++ [32] ++ FX ++ [10])).size ≤ 3021 := by rw [ofL_size, List.length_append, List.length_append, List.length_append, List.length_singleton, List.length_singleton]; omega
      have s6 : (ofL (TX k)).size ≤ 3021 * 403 := by rw [ofL_size]; omega
      obtain ⟨D, hD⟩ : ∃ T, ofL (digitsL k) = T := ⟨_, rfl⟩
      obtain ⟨E, hE⟩ : ∃ T, ofL (digitsL k ++ [32]) = T := ⟨_, rfl⟩
      obtain ⟨X, hX⟩ : ∃ T, ofL FX = T := ⟨_, rfl⟩
      obtain ⟨R, hR⟩ : ∃ T, ofL (digitsL k ++ [32] ++ FX) = T := ⟨_, rfl⟩
      obtain ⟨M, hM⟩ : ∃ T, ofL (digitsL k ++ [32] ++ FX ++ [10]) = T := ⟨_, rfl⟩
      obtain ⟨A, hA⟩ : ∃ T, ofL (TX k) = T := ⟨_, rfl⟩
      obtain ⟨C, hC⟩ : ∃ T, ofL (TX (k + 1)) = T := ⟨_, rfl⟩
      rw [hD] at hd hcat1 s1
      rw [hE] at hcat1 hcat2 s2
      rw [hX] at hw hcat2 s3
      rw [hR] at hcat2 hcat3 s4
      rw [hM] at hcat3 hcat4 s5
      rw [hC] at hcat4
      rw [hA] at hcat4 s6 ⊢
      change D ++ (⟨#[32]⟩ : ByteArray) = E at hcat1
      change R ++ (⟨#[10]⟩ : ByteArray) = M at hcat3
      have l1 : ¬ 9223372036854775807 < D.size + 1 := by omega
      have l2 : ¬ 9223372036854775807 < E.size + X.size := by omega
      have l3 : ¬ 9223372036854775807 < R.size + 1 := by omega
      have l4 : ¬ 9223372036854775807 < A.size + M.size := by omega
      have HC := Lib.hid hC
      have HW := Lib.hid hw
      have HD := Lib.hid hd
      clear hw hd
      clear hx hc hb hFX hsn hwl htl hdl s1 s2 s3 s4 s5 s6 hD hE hX hR hM hA hC hN403
      go_wp2_with fail
      go_region_held3 (fun W => (W.cell? ⟨w.heap.size, 0, none⟩ = some (.int .i64 ga) ∧ W.cell? ⟨w.heap.size, 1, none⟩ = some (.int .i64 gb) ∧ W.cell? ⟨w.heap.size, 2, none⟩ = some (.int .i64 gc)) ∧ W.cell? ⟨b, o + k, none⟩ = some (.string x))
        ((refine HCell.out _ ?_; repeat' first | with_reducible exact HB.out | with_reducible exact HB3.out | with_reducible exact HB4.out | with_reducible refine blD ?_ | with_reducible refine bl1 ?_ _))
        (first
          | (go_at_call 24
             refine (HD.out _).mono ?_
             rintro e w3 ⟨rfl, hb3⟩
             have HB3 : Hid (Below W0.heap.size W0 w3) := blN (by repeat' first | with_reducible exact HB.out | with_reducible exact HB4.out | with_reducible refine blD ?_ | with_reducible refine bl1 ?_ _) hb3
             clear hb3
             simp only)
          | (go_at_call 25
             refine (HW.out _).mono ?_
             rintro e w4 ⟨rfl, hb4⟩
             have HB4 : Hid (Below W0.heap.size W0 w4) := blN (by repeat' first | with_reducible exact HB.out | with_reducible exact HB3.out | with_reducible refine blD ?_ | with_reducible refine bl1 ?_ _) hb4
             clear hb4
             simp only))
      all_goals
        have HB5 : Hid (Below W0.heap.size W0 w4) := HB4
        go_wp2
        go_roundw
        case rel => exact ⟨k + 1, by omega, by go_num, by rw [HC.out], HB5⟩
        case measure => simp [intOf]; omega
    · obtain rfl : k = N := by omega
      have hk3 : ¬ k < k := by omega
      go_wp2
      first | exact HYes.out _ (blN HB0.out HB.out) | (go_ret2; exact HYes.out _ (blN HB0.out HB.out))
end
end Go.Proofs.YtbjhicnjeefiaaaGreatDoor
