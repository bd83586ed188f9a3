/-
  Walks of layer 31: the law DumpOne.
-/
import Derived.Test.YtmljdnlmpiklgaaGreatDoorLoadAll
import Derived.Test.YtmljdnlmpiklgaaGreatDoorDumpD
import Derived.Test.YtmljdnlmpiklgaaGreatDoorNamesA
import Derived.Test.YtmljdnlmpiklgaaGreatDoorAmong
import Derived.Laws.IdiomStrings
namespace Go.Proofs.YtmljdnlmpiklgaaGreatDoor
open Go Go.RowKit Txt Sp

def amongI (x : Int) (n : Nat) : Int := (x.tmod (n : Int) + n).tmod n
theorem amongI_bd (x : Int) (n : Nat) (h0 : 0 < n) : 0 ≤ amongI x n ∧ amongI x n < n := by
  have h2 : -(n : Int) < x.tmod (n : Int) := Int.lt_tmod_of_pos x (by omega)
  exact ⟨Int.tmod_nonneg _ (by omega), Int.tmod_lt_of_pos _ (by omega)⟩
set_option maxHeartbeats 1000000 in
theorem among_det (w : World) (x : Int) (n : Nat) (h0 : 0 < n) (hn : n ≤ 4000000000) :
    Calls Tryz.prog 12 #[.int .i64 x, .int .i64 n] w fun e w' => e = .returned (.int .i64 (amongI x n)) ∧ w' = w := by
  have h1 : x.tmod (n : Int) < n := Int.tmod_lt_of_pos x (by omega)
  have h2 : -(n : Int) < x.tmod (n : Int) := Int.lt_tmod_of_pos x (by omega)
  have hw : wrap64 (x.tmod (n : Int) + n) = x.tmod (n : Int) + n := IntWalk.wrap64_in _ ⟨by omega, by omega⟩
  have HY : Hid ((wrap64 (x.tmod (n : Int) + n)).tmod n = amongI x n) := by show (wrap64 (x.tmod (n : Int) + n)).tmod n = _; rw [hw]; rfl
  clear h1 h2 hw
  go_enter Tryz.func12, Tryz.ntmps12
  go_wp2
  go_ret
  rw [HY.out]
  exact ⟨rfl, rfl⟩
/-- A text with one byte another one. -/
theorem turned_ne {l : List UInt8} {r : Nat} {v : UInt8} (hr : r < l.length) (hv : v ≠ l[r]) : l.set r v ≠ l := fun h => hv (by
  have := congrArg (fun m : List UInt8 => m[r]?) h
  simp only [List.getElem?_set_self hr, List.getElem?_eq_getElem hr, Option.some.injEq] at this
  exact this)
theorem load_other {g : Sp.Geom} {t u : ByteArray} (h : (loadN g t).2.2 = 0) (hu : (loadN g u).2.2 = 0) (hne : u ≠ t) : (loadN g u).1 ≠ (loadN g t).1 := fun he => by
  have h1 := (loadN_ok h).2.1
  have h2 := (loadN_ok hu).2.1
  rw [he, h1] at h2
  exact hne (congrArg Prod.fst h2).symm
theorem load_wrong {g : Sp.Geom} {t u : ByteArray} (h : (loadN g t).2.2 = 0) (hs : u.size = t.size) (hu : (loadN g u).2.2 ≠ 0) : (loadN g u).2.2 = 280 ∧ 1 ≤ (loadN g u).2.1 := by
  have h1 := loadN_ok h
  rcases (loadN_codes g u hu).2 with ⟨_, h2⟩ | ⟨_, h2⟩ | h2
  · exact absurd h1.1.1 h2
  · have := h1.2.2.2; omega
  · exact h2
theorem load_pos {g : Sp.Geom} {t : ByteArray} (h : (loadN g t).2.2 = 0) : 0 < t.size := by
  rcases Nat.eq_zero_or_pos t.size with h0 | h0
  · have hg := (loadN_ok h).1.1
    have hsz := Geom.size_bd hg
    have hl : t.data.toList = [] := List.length_eq_zero_iff.1 h0
    have hf : loadFrom g 0 (cutAt 10 t.data.toList) = (none, 1) := by
      rw [hl]
      show loadFrom g 0 [[]] = _
      rw [loadFrom_end, if_neg (fun h => by have := h.1; omega)]
    rw [loadN_none hg (by omega) hf] at h
    exact absurd h (by decide)
  · exact h0
/-- A row that []byte laid, one byte of it written anew: its text. -/
theorem turned_text {w : World} {b cap : Nat} {t : ByteArray} {e : TypeId} {fr : Nat × Nat} (h : w.heap[b]? = some (.cells (bytesRow t cap) e fr)) {r : Nat} (hr : r < t.size) (v : UInt8) (he : Tryz.prog.underlying e = some (.int .u8)) (hs : Tryz.prog.underlying 36 = some (.slice e)) (c : Nat) :
    (convert 36 9 (.slice (some ⟨b, 0, none⟩) t.size c)).run Tryz.prog (w.setCell ⟨b, r, none⟩ (.int .u8 (v.toNat : Int))) = .ok (.string (ofL (t.data.toList.set r v))) (w.setCell ⟨b, r, none⟩ (.int .u8 (v.toNat : Int))) := by
  have hts : t.data.toList.length = t.size := rfl
  have hs2 : t.data.size = t.size := rfl
  have hlen : (t.data.toList.set r v).length = t.size := by rw [List.length_set]; exact hts
  have hh := setHeap_at (k := r) h (.int .u8 (v.toNat : Int))
  have := run_convert_bytes_back (P := Tryz.prog) (w.setCell ⟨b, r, none⟩ (.int .u8 (v.toNat : Int))) 36 9 e ⟨b, 0, none⟩ c (t.data.toList.set r v) hs he Tryz.underlying9 (fun j hj => by
    have hadd : (⟨b, 0, none⟩ : Addr).add j = ⟨b, j, none⟩ := by unfold Addr.add; split <;> simp_all
    rw [hadd]
    refine cellOf hh ?_
    rw [hlen] at hj
    rw [Array.getElem?_setIfInBounds]
    by_cases hjr : r = j
    · subst hjr
      rw [if_pos rfl, if_pos (by unfold bytesRow; simp; omega)]
      simp
    · rw [if_neg hjr, bytesRow_at t cap j (by omega)]
      simp [hjr])
  rw [hlen] at this
  exact this
theorem marked_free {w : World} {b n m j : Nat} {cs : Array Value} {e : TypeId} (h : w.heap[b]? = some (.cells cs e (n, m))) (hj : j < n) : w.frozen? ⟨b, j, none⟩ = false := by
  simp only [World.frozen?, h]
  simp
  omega
section
set_option maxHeartbeats 8000000
set_option maxRecDepth 20000 in
theorem dumpOne_any (w : World) (g : Sp.Geom) (t : ByteArray) (x y : Int) (ht : TabOk w) (hm : MaxOk w) :
    Calls Tryz.prog 5 #[gV g, .string t, .agg #[.int .i64 x, .int .i64 y]] w fun e w' => e = .returned (.bool true) ∧ Below w.heap.size w w' := by
  have hwk := fun W : World => fun (hW : Below w.heap.size w W) => works31_any W (ht.below hW) (hm.below hW)
  have hld := fun (s : ByteArray) (W : World) (hW : Below w.heap.size w W) => dload_any W g s (ht.below hW) (hm.below hW)
  unfold LoadPost at hld
  have hl0 := hld t
  obtain ⟨l, hl⟩ : ∃ l, (loadN g t).1 = l := ⟨_, rfl⟩
  obtain ⟨k, hk⟩ : ∃ k, (loadN g t).2.1 = k := ⟨_, rfl⟩
  by_cases hc : (loadN g t).2.2 = 0
  rotate_left
  focus
    have hnil := (loadN_codes g t hc).1
    obtain ⟨c, hcc⟩ : ∃ c, (loadN g t).2.2 = c := ⟨_, rfl⟩
    have hbne : (c != 0) = true := by rw [← hcc]; exact bne_iff_ne.2 hc
    have hbeq : (c == 0) = false := by rw [← hcc]; exact beq_eq_false_iff_ne.2 hc
    rw [hcc, hk, hnil] at hl0
    obtain ⟨ga, gb, gc⟩ := g
    unfold gV at hl0 ⊢
    have HWK := Lib.hid hwk
    have HL0 := Lib.hid hl0
    clear hwk hl0
    clear hld hl hk hc hnil hcc ht hm
    obtain ⟨W0, hW0⟩ : ∃ W, w.alloc (.cells #[.int .i64 ga, .int .i64 gb, .int .i64 gc] 23) = W := ⟨_, rfl⟩
    have hk := g_keep hW0
    have HB0 := Lib.hid hk.1
    have HK := Lib.hid hk.2
    clear hk
    obtain ⟨W1, hW1⟩ : ∃ W, W0.alloc (.cells #[.int .i64 x, .int .i64 y] 35) = W := ⟨_, rfl⟩
    have HB1 : Hid (Below W0.heap.size W0 W1) := by rw [← hW1]; exact bl2 _
    obtain ⟨z0, z1, z2⟩ := HK.out W1 HB1.out
    go_enter Tryz.func5, Tryz.ntmps5
    go_wp2_with fail
    clear z0 z1 z2
    refine (HWK.out _ (blN HB0.out HB1.out)).mono ?_
    rintro e w2 ⟨rfl, hb2⟩
    have HB2 := Lib.hid (blN HB1.out hb2)
    clear hb2
    obtain ⟨z0, z1, z2⟩ := HK.out w2 HB2.out
    go_wp2_with fail
    refine (HL0.out _ (blN HB0.out HB2.out)).mono ?_
    rintro e w3 ⟨lv, rfl, ho3, hb3⟩
    have HB3 := Lib.hid (blN HB2.out hb3)
    obtain ⟨oad, ocap, rfl⟩ := OwnR.form ho3
    clear z0 z1 z2 hb3 ho3
    go_wp2
    go_ret
    exact ⟨rfl, blN HB0.out HB3.out⟩
  have hok := loadN_ok hc
  have hpos := load_pos hc
  rw [hc, hl, hok.2.2.1] at hl0
  have htx := fun (W : World) (v : Value) (hv : Texts W v l) (hW : Below w.heap.size w W) => dtext_any W g v l hv (ht.below hW) (hm.below hW)
  unfold TextPost at htx
  have htn := hok.2.1
  rw [hl] at htn
  rw [htn] at htx
  dsimp only at htx
  have hbig : t.size ≤ 1048576 := hok.2.2.2
  obtain ⟨r, hr⟩ : ∃ r : Nat, amongI x t.size = (r : Int) := ⟨(amongI x t.size).toNat, by have := amongI_bd x t.size hpos; omega⟩
  obtain ⟨q, hq⟩ : ∃ q : Nat, amongI y 255 = (q : Int) := ⟨(amongI y 255).toNat, by have := amongI_bd y 255 (by decide); omega⟩
  have hrl : r < t.size := by have := amongI_bd x t.size hpos; omega
  have hql : q < 255 := by have := amongI_bd y 255 (by decide); omega
  have ha0 := fun W : World => among_det W x t.size hpos (by omega)
  have ha1 := fun W : World => show Calls Tryz.prog 12 #[.int .i64 y, .int .i64 255] W (fun e w' => e = .returned (.int .i64 (amongI y 255)) ∧ w' = W) from among_det W y 255 (by decide) (by decide)
  rw [hr] at ha0
  rw [hq] at ha1
  have hcv := fun W : World => run_bytes_of_string (P := Tryz.prog) W 9 36 5 t Tryz.underlying9 Tryz.underlying36 Tryz.underlying5
  obtain ⟨c, hcb⟩ : ∃ c : UInt8, t[r]'hrl = c := ⟨_, rfl⟩
  obtain ⟨v, hv⟩ : ∃ v : UInt8, v.toNat = (c.toNat + (1 + q)) % 256 := ⟨UInt8.ofNat ((c.toNat + (1 + q)) % 256), by simp⟩
  have hvc : v ≠ c := fun h => by
    rw [h] at hv
    have := c.toNat_lt
    omega
  have hel : t.data.toList[r]? = some c := by rw [at_data t r hrl, hcb]
  obtain ⟨U, hU⟩ : ∃ U, ofL (t.data.toList.set r v) = U := ⟨_, rfl⟩
  have hUs : U.size = t.size := by rw [← hU, ofL_size, List.length_set]; rfl
  have hne : U ≠ t := fun h => by
    rw [← hU] at h
    have h2 := congrArg (fun b : ByteArray => b.data.toList) h
    simp only [ofL_data] at h2
    have hrl2 : r < t.data.toList.length := hrl
    refine turned_ne hrl2 (v := v) (fun he => hvc ?_) h2
    rw [he]
    rw [List.getElem?_eq_getElem hrl2] at hel
    exact Option.some.inj hel
  have hl1 := hld U
  obtain ⟨l2, hl2⟩ : ∃ l2, (loadN g U).1 = l2 := ⟨_, rfl⟩
  obtain ⟨k2, hk2⟩ : ∃ k2, (loadN g U).2.1 = k2 := ⟨_, rfl⟩
  obtain ⟨c2, hc2⟩ : ∃ c2, (loadN g U).2.2 = c2 := ⟨_, rfl⟩
  have hw1 := fun h : c2 ≠ 0 => load_wrong hc hUs (by rw [hc2]; exact h)
  have hw2 := fun h : c2 = 0 => load_other hc (by rw [hc2]; exact h) hne
  rw [hl2, hk2, hc2] at hl1
  rw [hk2, hc2] at hw1
  rw [hl, hl2] at hw2
  have htt := fun (W : World) (b cap : Nat) (fr : Nat × Nat) (h : W.heap[b]? = some (.cells (bytesRow t cap) 5 fr)) (cc : Nat) => turned_text h hrl v Tryz.underlying5 Tryz.underlying36 cc
  rw [hU] at htt
  have e1 : IntKind.u8.wrap ((c.toNat : Int) + (1 + (q : Int))) = (v.toNat : Int) := by
    rw [hv]
    show ((c.toNat : Int) + (1 + (q : Int))) % 256 = _
    omega
  have e2 : IntKind.i64.wrap (1 + (q : Int)) = 1 + (q : Int) := IntWalk.i64_in _ (by omega)
  have e3 : IntKind.u8.wrap (1 + (q : Int)) = 1 + (q : Int) := by
    show (1 + (q : Int)) % 256 = _
    omega
  have hcr := fun cap => bytesRow_at t cap r hrl
  have hcc : t.data[r]'hrl = c := hcb
  simp only [hcc] at hcr
  have hbs : ∀ cap, r < (bytesRow t cap).size := fun cap => by
    have := (Array.getElem?_eq_some_iff.1 (hcr cap)).1
    exact this
  obtain ⟨C, hC⟩ : ∃ C : Int, (c.toNat : Int) = C := ⟨_, rfl⟩
  obtain ⟨VV, hVV⟩ : ∃ C : Int, (v.toNat : Int) = C := ⟨_, rfl⟩
  rw [hC, hVV] at e1
  simp only [hVV] at htt
  simp only [hC] at hcr
  obtain ⟨N, hN⟩ : ∃ N, t.size = N := ⟨_, rfl⟩
  simp only [hN] at htt ha0 hcv
  rw [hN] at hrl
  have hri : (r : Int) < (N : Int) := by omega
  obtain ⟨ga, gb, gc⟩ := g
  unfold gV at hl0 hl1 htx ⊢
  have HRL := Lib.hid hrl
  have HWK := Lib.hid hwk
  have HL0 := Lib.hid hl0
  have HL1 := Lib.hid hl1
  have HTX := Lib.hid htx
  have HA0 := Lib.hid ha0
  have HA1 := Lib.hid ha1
  have HCV := Lib.hid hcv
  have HW1 := Lib.hid hw1
  have HW2 := Lib.hid hw2
  have HTT := Lib.hid htt
  have HCR := Lib.hid hcr
  have HBS := Lib.hid hbs
  clear hwk hl0 hl1 htx ha0 ha1 hcv hw1 hw2 htt hcr hbs
  clear hld hl hk hc hok hpos hbig hr hq hcb hv hvc hel hU hUs hne hl2 hk2 hc2 hC hVV hcc ht hm htn
  obtain ⟨W0, hW0⟩ : ∃ W, w.alloc (.cells #[.int .i64 ga, .int .i64 gb, .int .i64 gc] 23) = W := ⟨_, rfl⟩
  have hk := g_keep hW0
  have HB0 := Lib.hid hk.1
  have HK := Lib.hid hk.2
  clear hk
  obtain ⟨W1, hW1⟩ : ∃ W, W0.alloc (.cells #[.int .i64 x, .int .i64 y] 35) = W := ⟨_, rfl⟩
  have HB1 : Hid (Below W0.heap.size W0 W1) := by rw [← hW1]; exact bl2 _
  have HXY : Hid (∀ W, Below W1.heap.size W1 W → W.cell? ⟨W0.heap.size, 0, none⟩ = some (.int .i64 x) ∧ W.cell? ⟨W0.heap.size, 1, none⟩ = some (.int .i64 y)) := fun W hW => by
    have hz : W1.heap[W0.heap.size]? = some (.cells #[.int .i64 x, .int .i64 y] 35 (0, 0)) := by rw [← hW1]; exact heapNew W0 _
    have := heapOld hW hz
    exact ⟨cellOf (k := 0) this rfl, cellOf (k := 1) this rfl⟩
  go_enter Tryz.func5, Tryz.ntmps5
  go_wp2_with fail
  refine (HWK.out _ (blN HB0.out HB1.out)).mono ?_
  rintro e w2 ⟨rfl, hb2⟩
  have HX2 : Hid (Below W1.heap.size W1 w2) := hb2
  have HB2 := Lib.hid (blN HB1.out hb2)
  clear hb2
  obtain ⟨z0, z1, z2⟩ := HK.out w2 HB2.out
  go_wp2_with fail
  refine (HL0.out _ (blN HB0.out HB2.out)).mono ?_
  rintro e w3 ⟨lv, rfl, ho3, hb3⟩
  have HX3 := Lib.hid (blN HX2.out hb3)
  have HB3 := Lib.hid (blN HB2.out hb3)
  have HT3 := Lib.hid (OwnTexts.texts (OwnS.texts ho3))
  clear z0 z1 z2 hb3 ho3
  obtain ⟨z0, z1, z2⟩ := HK.out w3 HB3.out
  go_wp2_with fail
  refine (HTX.out _ _ HT3.out (blN HB0.out HB3.out)).mono ?_
  rintro e w4 ⟨rfl, hb4⟩
  have HX4 := Lib.hid (blN HX3.out hb4)
  have HB4 := Lib.hid (blN HB3.out hb4)
  have HT4 := Lib.hid (HT3.out.below hb4)
  clear z0 z1 z2 hb4
  obtain ⟨cap, hcap⟩ : ∃ cap, grownCap w4 N 0 5 = cap := ⟨_, rfl⟩
  have hcv4 := HCV.out w4
  rw [hcap] at hcv4
  obtain ⟨W5, hW5⟩ : ∃ W, w4.drew.alloc (.cells (bytesRow t cap) 5 ((bytesRow t cap).size, (bytesRow t cap).size + 1)) = W := ⟨_, rfl⟩
  rw [hW5] at hcv4
  have HX5 : Hid (Below W1.heap.size W1 W5) := by rw [← hW5]; exact bl1 (blD HX4.out) _
  have HB5 : Hid (Below W0.heap.size W0 W5) := by rw [← hW5]; exact bl1 (blD HB4.out) _
  have HT5 : Hid (Texts W5 lv l) := by rw [← hW5]; exact HT4.out.below (bl1 (blD (Below.refl _ _)) _)
  have HZ5 : Hid (W5.heap[w4.heap.size]? = some (.cells (bytesRow t cap) 5 ((bytesRow t cap).size, (bytesRow t cap).size + 1))) := by rw [← hW5]; exact heapNew w4.drew _
  clear hcap
  go_wp2_with fail
  obtain ⟨x0, x1⟩ := HXY.out W5 HX5.out
  have cb := cellOf HZ5.out (HCR.out cap)
  have fb := marked_free HZ5.out (HBS.out cap)
  go_region_law (first
    | (go_simp
       go_at_call 12
       with_reducible refine (HA0.out _).mono ?_
       rintro e w6 ⟨rfl, hw6⟩
       subst hw6)
    | (go_simp
       go_at_call 12
       with_reducible refine (HA1.out _).mono ?_
       rintro e w6 ⟨rfl, hw6⟩
       subst hw6))
  all_goals
    clear x0 x1 cb fb hcv4
    have HL7 : Hid (Below w4.heap.size w4 (W5.setCell ⟨w4.heap.size, r, none⟩ (.int .u8 VV)).drew) := by
      rw [← hW5]
      exact blD (Below.setCell (p := ⟨w4.heap.size, r, none⟩) (bl1 (blD (Below.refl _ _)) _) (Nat.le_refl _) _)
    have hcb : (convert 36 9 (.slice (some ⟨w4.heap.size, 0, none⟩) N cap)).run Tryz.prog (W5.setCell ⟨w4.heap.size, r, none⟩ (.int .u8 VV)).drew = .ok (.string U) (W5.setCell ⟨w4.heap.size, r, none⟩ (.int .u8 VV)).drew := HTT.out W5.drew _ _ _ HZ5.out _
    obtain ⟨W7, hW7⟩ : ∃ W, (W5.setCell ⟨w4.heap.size, r, none⟩ (.int .u8 VV)).drew = W := ⟨_, rfl⟩
    rw [hW7] at HL7 hcb
    have HB7 : Hid (Below W0.heap.size W0 W7) := blN HB4.out HL7.out
    have HT7 := Lib.hid (HT4.out.below HL7.out)
    obtain ⟨z0, z1, z2⟩ := HK.out W7 HB7.out
    clear hW5
    go_wp2_with fail
    refine (HL1.out _ (blN HB0.out HB7.out)).mono ?_
    rintro e w8 ⟨lv2, rfl, ho8, hb8⟩
    have HB8 := Lib.hid (blN HB7.out hb8)
    have HT8 := Lib.hid (HT7.out.below hb8)
    have HU8 := Lib.hid (OwnTexts.texts (OwnS.texts ho8))
    clear z0 z1 z2 hb8 ho8 hcb hW7
    by_cases h2 : c2 = 0
    · have hn := HW2.out h2
      subst h2
      go_wp2_with fail
      with_reducible refine (sameTexts_any _ _ l2 l w8 HU8.out HT8.out).mono ?_
      rintro e w9 ⟨rfl, hb9⟩
      have HB9 := Lib.hid (blN HB8.out hb9)
      rw [decide_eq_false hn]
      clear hb9
      go_wp2
      go_ret
      exact ⟨rfl, blN HB0.out HB9.out⟩
    · obtain ⟨h280, hk2⟩ := HW1.out h2
      subst h280
      have q1 : decide ((k2 : Int) ≥ 1) = true := decide_eq_true (by omega)
      have q2 : (1 : Int) ≤ (k2 : Int) := by omega
      clear h2
      go_wp2
      go_ret
      exact ⟨rfl, blN HB0.out HB8.out⟩
end
end Go.Proofs.YtmljdnlmpiklgaaGreatDoor
