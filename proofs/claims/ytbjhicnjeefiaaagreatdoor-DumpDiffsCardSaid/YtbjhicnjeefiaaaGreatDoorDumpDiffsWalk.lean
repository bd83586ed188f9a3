/-
  Walks of layer 31: the law DumpDiffs.
-/
import Derived.Test.YtbjhicnjeefiaaaGreatDoorRefDiff
import Derived.Test.YtbjhicnjeefiaaaGreatDoorDumpD
import Derived.Test.YtbjhicnjeefiaaaGreatDoorSpoilT
import Derived.Test.YtbjhicnjeefiaaaGreatDoorAppendSrc
namespace Go.Proofs.YtbjhicnjeefiaaaGreatDoor
open Go Go.RowKit Txt Sp

/-- What an append takes from a slice of texts. -/
theorem texts_src {w : World} {ad : Option Addr} {n cap : Nat} {l : List ByteArray} (h : Texts w (.slice ad n cap) l) : ∀ a, ad = some a → ∀ j u, (l.map Value.string)[j]? = some u → w.cell? (a.add j) = some u := by
  obtain ⟨ad', cap', hv, h1, h2, h3⟩ := h
  intro a ha j u hu
  have hj : j < l.length := by have := (List.getElem?_eq_some_iff.1 hu).1; rwa [List.length_map] at this
  obtain ⟨b, o, hb, hlt, hc⟩ := h3 (by omega)
  cases hv
  subst ha
  cases hb
  have hx := List.getElem?_eq_getElem hj
  rw [List.getElem?_map, hx] at hu
  have e : Value.string l[j] = u := Option.some.inj hu
  rw [← e, show (⟨b, o, none⟩ : Addr).add j = ⟨b, o + j, none⟩ by unfold Addr.add; split <;> simp_all]
  exact hc j _ hx
theorem nil_zero {v : Value} {ad : Option Addr} {n cap : Nat} (he : v = .slice ad n cap) (h : v = .slice none 0 0 ∨ ∃ a n c, v = .slice (some a) n c) : ad = none → n = 0 ∧ cap = 0 := by
  intro hn
  subst hn he
  rcases h with h | ⟨a, n', c, h⟩
  · cases h; exact ⟨rfl, rfl⟩
  · cases h
section
set_option maxHeartbeats 8000000
set_option maxRecDepth 20000 in
theorem dumpDiffs_any (w : World) (g : Sp.Geom) (v u : Value) (l m : List ByteArray) (hv : Texts w v l) (hu : Texts w u m) (hl : l.length * 16 ≤ 140737488351232) (hm0 : m.length * 16 ≤ 140737488351232)
    (hv0 : v = .slice none 0 0 ∨ ∃ a n c, v = .slice (some a) n c) (hu0 : u = .slice none 0 0 ∨ ∃ a n c, u = .slice (some a) n c) (ht : TabOk w) (hm : MaxOk w) :
    Calls Tryz.prog 4 #[gV g, v, u] w fun e w' => e = .returned (.bool true) ∧ Below w.heap.size w w' := by
  have hsh := fun (W : World) (hW : Below w.heap.size w W) => rshape_any W g v l (hv.below hW)
  have hwk := fun (W : World) (hW : Below w.heap.size w W) => works31_any W (ht.below hW) (hm.below hW)
  obtain ⟨ad, n, cap, rfl, HN, hn2, HF⟩ := texts_facts hv
  by_cases hlong : shapeP g l ∧ 120 < n
  · rw [decide_eq_true hlong.1] at hsh
    have f1 : decide ((n : Int) > 120) = true := decide_eq_true (by omega)
    have f2 : (120 : Int) < (n : Int) := by omega
    clear hlong hv
    obtain ⟨ga, gb, gc⟩ := g
    unfold gV at hsh ⊢
    have HSH := Lib.hid hsh
    have HWK := Lib.hid hwk
    clear hsh hwk
    obtain ⟨W0, hW0⟩ : ∃ W, w.alloc (.cells #[.int .i64 ga, .int .i64 gb, .int .i64 gc] 23) = W := ⟨_, rfl⟩
    have hk := g_keep hW0
    have HB0 := Lib.hid hk.1
    have HK := Lib.hid hk.2
    clear hk
    obtain ⟨z0, z1, z2⟩ := HK.out W0 (Below.refl _ _)
    go_enter Tryz.func4, Tryz.ntmps4
    go_wp2_with fail
    clear z0 z1 z2
    refine (HSH.out _ HB0.out).mono ?_
    rintro e w1 ⟨rfl, hb1⟩
    have HB1 := Lib.hid (blN HB0.out hb1)
    clear hb1
    go_wp2_with fail
    refine (HWK.out _ HB1.out).mono ?_
    rintro e w2 ⟨rfl, hb2⟩
    have HB2 := Lib.hid (blN HB1.out hb2)
    clear hb2
    go_wp2
    go_ret
    exact ⟨rfl, HB2.out⟩
  · have hcase : (shapeP g l ∧ ¬ 120 < n) ∨ ¬ shapeP g l := by
      by_cases h : shapeP g l
      · exact Or.inl ⟨h, fun h2 => hlong ⟨h, h2⟩⟩
      · exact Or.inr h
    clear hlong HF
    obtain ⟨bd, k, bcap, rfl, HM2, hk2, -⟩ := texts_facts hu
    have HZ1 := Lib.hid (nil_zero rfl hv0)
    have HZ2 := Lib.hid (nil_zero rfl hu0)
    have HLn := Lib.hid hl
    have HMn := Lib.hid hm0
    have hdx := fun (W : World) (v u : Value) (hv : Texts W v l) (hu : Texts W u m) (hW : Below w.heap.size w W) => ddiff_any W g v u l m hv hu (ht.below hW) (hm.below hW)
    have hrx := fun (W : World) (hW : Below w.heap.size w W) => rdiff_any W g _ _ l m (hv.below hW) (hu.below hW)
    unfold DiffPost at hdx hrx
    have HV : Hid (∀ W, Below w.heap.size w W → Texts W _ l) := fun W hW => hv.below hW
    have HU : Hid (∀ W, Below w.heap.size w W → Texts W _ m) := fun W hW => hu.below hW
    obtain ⟨ia, ib, ic, id, ie⟩ := info_parts Tryz.infoText
    clear hv hu hv0 hu0
    rcases hcase with ⟨hs, hle⟩ | hs
    · rw [decide_eq_true hs] at hsh
      have f1 : decide ((n : Int) > 120) = false := decide_eq_false (by omega)
      have f2 : ¬ (120 : Int) < (n : Int) := by omega
      obtain ⟨ga, gb, gc⟩ := g
      unfold gV at hsh hdx hrx ⊢
      have HSH := Lib.hid hsh
      have HWK := Lib.hid hwk
      have HDX := Lib.hid hdx
      have HRX := Lib.hid hrx
      clear hsh hwk hdx hrx
      obtain ⟨W0, hW0⟩ : ∃ W, w.alloc (.cells #[.int .i64 ga, .int .i64 gb, .int .i64 gc] 23) = W := ⟨_, rfl⟩
      have hk := g_keep hW0
      have HB0 := Lib.hid hk.1
      have HK := Lib.hid hk.2
      clear hk
      obtain ⟨z0, z1, z2⟩ := HK.out W0 (Below.refl _ _)
      go_enter Tryz.func4, Tryz.ntmps4
      go_wp2_with fail
      clear z0 z1 z2
      refine (HSH.out _ HB0.out).mono ?_
      rintro e w1 ⟨rfl, hb1⟩
      have HB1 : Hid (Below W0.heap.size W0 w1) := hb1
      clear hb1
      go_upto_region 3 with fail
      have HOwn : Hid ((w1.alloc (.cells #[] 9)).ownsRow W0.heap.size 9 1 (.slice (some ⟨w1.heap.size, 0, none⟩) 0 0) 0 []) := OwnR.block (f := fun s : ByteArray => [Value.string s]) (l := []) (heapNew w1 _) rfl rfl HB1.out.size (Nat.zero_le _)
      go_wp2_with (at_builtin; refine wpList_append_src _ rfl (.tmp 23) (.tmp 24) _ rfl W0.heap.size 9 ia _ 1 16 Tryz.underlying24 ib ic id ie rfl (by decide) _ 0 0 [] rfl HOwn.out ad n cap rfl HZ1.out (l.map Value.string) ?c1 (texts_src (HV.out _ (bl1 (blN HB0.out HB1.out) _))) ?c3 ?c4 ?c5 ?c6 ?c7)
      case c1 => have := HN.out; simp; omega
      case c3 => intro u hu; obtain ⟨s, _, rfl⟩ := List.mem_map.1 hu; rfl
      case c4 => have := HN.out; unfold maxLen; omega
      case c5 => have := HN.out; omega
      case c6 => have := HB1.out.size; simp; omega
      intro g2 cap2 w2 hown2 hgrow2 _
      have HB2 : Hid (Below W0.heap.size W0 w2) := Below.grown (bl1 HB1.out _) hgrow2 (bl1 HB1.out _).size (fun q hq => (World.ownsRow.lt HOwn.out q hq).1)
      have HO2 : Hid (Texts w2 (.slice (some ⟨g2, 0, none⟩) n cap2) l) := OwnTexts.texts (n := W0.heap.size) ⟨_, by rw [← HN.out]; simpa using hown2⟩
      clear hown2 hgrow2
      have HOwn2 : Hid ((w2.alloc (.cells #[] 9)).ownsRow w2.heap.size 9 1 (.slice (some ⟨w2.heap.size, 0, none⟩) 0 0) 0 []) := OwnR.block (f := fun s : ByteArray => [Value.string s]) (l := []) (heapNew w2 _) rfl rfl (Nat.le_refl _) (Nat.zero_le _)
      go_wp2_with (at_builtin; refine wpList_append_src _ rfl (.tmp 26) (.tmp 27) _ rfl w2.heap.size 9 ia _ 1 16 Tryz.underlying24 ib ic id ie rfl (by decide) _ 0 0 [] rfl HOwn2.out bd k bcap rfl HZ2.out (m.map Value.string) ?d1 (texts_src (HU.out _ (bl1 (blN HB0.out HB2.out) _))) ?d3 ?d4 ?d5 ?d6 ?d7)
      case d1 => have := HM2.out; simp; omega
      case d3 => intro u hu; obtain ⟨s, _, rfl⟩ := List.mem_map.1 hu; rfl
      case d4 => have := HM2.out; unfold maxLen; omega
      case d5 => have := HM2.out; omega
      case d6 => simp
      intro g3 cap3 w3 hown3 hgrow3 _
      have hb3 : Below w2.heap.size w2 w3 := Below.grown (bl1 (Below.refl _ _) _) hgrow3 (bl1 (Below.refl _ _) _).size (fun q hq => (World.ownsRow.lt HOwn2.out q hq).1)
      have HB3 := Lib.hid (blN HB2.out hb3)
      have HX3 := Lib.hid (HO2.out.below hb3)
      have HY3 : Hid (Texts w3 (.slice (some ⟨g3, 0, none⟩) k cap3) m) := OwnTexts.texts (n := w2.heap.size) ⟨_, by rw [← HM2.out]; simpa using hown3⟩
      clear hown3 hgrow3 hb3
      obtain ⟨z0, z1, z2⟩ := HK.out w3 HB3.out
      go_wp2_with fail
      with_reducible refine (HDX.out _ _ _ HX3.out HY3.out (blN HB0.out HB3.out)).mono ?_
      rintro e w4 ⟨lv, rfl, ho4, hb4⟩
      have HL4 : Hid (Below w3.heap.size w3 w4) := hb4
      have HB4 := Lib.hid (blN HB3.out hb4)
      have HO4 := Lib.hid ho4
      clear hb4 z0 z1 z2 ho4
      obtain ⟨z0, z1, z2⟩ := HK.out w4 HB4.out
      go_wp2_with fail
      with_reducible refine (HRX.out _ (blN HB0.out HB4.out)).mono ?_
      rintro e w5 ⟨kv, rfl, ho5, hb5⟩
      have HL5 := Lib.hid (blN HL4.out hb5)
      have HB5 := Lib.hid (blN HB4.out hb5)
      have HO5 := Lib.hid (HO4.out.below hb5)
      have HP5 := Lib.hid ho5.texts
      clear hb5 z0 z1 z2 ho5
      go_wp2_with fail
      with_reducible refine (sameTexts_yes _ _ _ w5 HO5.out.texts HP5.out).mono ?_
      rintro e w6 ⟨rfl, hb6⟩
      have HL6 := Lib.hid (blN HL5.out hb6)
      have HB6 := Lib.hid (blN HB5.out hb6)
      have HO6 := Lib.hid (HO5.out.below hb6)
      clear hb6
      go_wp2_with fail
      with_reducible refine (spoilT_any HO6.out).mono ?_
      rintro e w7 ⟨rfl, hb7⟩
      have HL7 := Lib.hid (Below.trans HL6.out hb7)
      have HB7 := Lib.hid (Below.trans HB6.out (hb7.mono HB3.out.size))
      have HX7 := Lib.hid (HX3.out.below HL7.out)
      have HY7 := Lib.hid (HY3.out.below HL7.out)
      clear hb7
      go_wp2_with fail
      with_reducible refine (sameTexts_yes _ _ l w7 HX7.out (HV.out _ (blN HB0.out HB7.out))).mono ?_
      rintro e w8 ⟨rfl, hb8⟩
      have HB8 := Lib.hid (blN HB7.out hb8)
      have HY8 := Lib.hid (HY7.out.below hb8)
      clear hb8
      go_wp2_with fail
      with_reducible refine (sameTexts_yes _ _ m w8 HY8.out (HU.out _ (blN HB0.out HB8.out))).mono ?_
      rintro e w9 ⟨rfl, hb9⟩
      have HB9 := Lib.hid (blN HB8.out hb9)
      clear hb9
      go_wp2_with fail
      refine (HWK.out _ (blN HB0.out HB9.out)).mono ?_
      rintro e wa ⟨rfl, hba⟩
      have HBa := Lib.hid (blN HB9.out hba)
      clear hba
      go_wp2
      go_ret
      exact ⟨rfl, blN HB0.out HBa.out⟩
    · rw [decide_eq_false hs] at hsh
      obtain ⟨ga, gb, gc⟩ := g
      unfold gV at hsh hdx hrx ⊢
      have HSH := Lib.hid hsh
      have HWK := Lib.hid hwk
      have HDX := Lib.hid hdx
      have HRX := Lib.hid hrx
      clear hsh hwk hdx hrx
      obtain ⟨W0, hW0⟩ : ∃ W, w.alloc (.cells #[.int .i64 ga, .int .i64 gb, .int .i64 gc] 23) = W := ⟨_, rfl⟩
      have hk := g_keep hW0
      have HB0 := Lib.hid hk.1
      have HK := Lib.hid hk.2
      clear hk
      obtain ⟨z0, z1, z2⟩ := HK.out W0 (Below.refl _ _)
      go_enter Tryz.func4, Tryz.ntmps4
      go_wp2_with fail
      clear z0 z1 z2
      refine (HSH.out _ HB0.out).mono ?_
      rintro e w1 ⟨rfl, hb1⟩
      have HB1 : Hid (Below W0.heap.size W0 w1) := hb1
      clear hb1
      go_upto_region 3 with fail
      have HOwn : Hid ((w1.alloc (.cells #[] 9)).ownsRow W0.heap.size 9 1 (.slice (some ⟨w1.heap.size, 0, none⟩) 0 0) 0 []) := OwnR.block (f := fun s : ByteArray => [Value.string s]) (l := []) (heapNew w1 _) rfl rfl HB1.out.size (Nat.zero_le _)
      go_wp2_with (at_builtin; refine wpList_append_src _ rfl (.tmp 23) (.tmp 24) _ rfl W0.heap.size 9 ia _ 1 16 Tryz.underlying24 ib ic id ie rfl (by decide) _ 0 0 [] rfl HOwn.out ad n cap rfl HZ1.out (l.map Value.string) ?p1 (texts_src (HV.out _ (bl1 (blN HB0.out HB1.out) _))) ?p3 ?p4 ?p5 ?p6 ?p7)
      case p1 => have := HN.out; simp; omega
      case p3 => intro u hu; obtain ⟨s, _, rfl⟩ := List.mem_map.1 hu; rfl
      case p4 => have := HN.out; unfold maxLen; omega
      case p5 => have := HN.out; omega
      case p6 => have := HB1.out.size; simp; omega
      intro g2 cap2 w2 hown2 hgrow2 _
      have HB2 : Hid (Below W0.heap.size W0 w2) := Below.grown (bl1 HB1.out _) hgrow2 (bl1 HB1.out _).size (fun q hq => (World.ownsRow.lt HOwn.out q hq).1)
      have HO2 : Hid (Texts w2 (.slice (some ⟨g2, 0, none⟩) n cap2) l) := OwnTexts.texts (n := W0.heap.size) ⟨_, by rw [← HN.out]; simpa using hown2⟩
      clear hown2 hgrow2
      have HOwn2 : Hid ((w2.alloc (.cells #[] 9)).ownsRow w2.heap.size 9 1 (.slice (some ⟨w2.heap.size, 0, none⟩) 0 0) 0 []) := OwnR.block (f := fun s : ByteArray => [Value.string s]) (l := []) (heapNew w2 _) rfl rfl (Nat.le_refl _) (Nat.zero_le _)
      go_wp2_with (at_builtin; refine wpList_append_src _ rfl (.tmp 26) (.tmp 27) _ rfl w2.heap.size 9 ia _ 1 16 Tryz.underlying24 ib ic id ie rfl (by decide) _ 0 0 [] rfl HOwn2.out bd k bcap rfl HZ2.out (m.map Value.string) ?q1 (texts_src (HU.out _ (bl1 (blN HB0.out HB2.out) _))) ?q3 ?q4 ?q5 ?q6 ?q7)
      case q1 => have := HM2.out; simp; omega
      case q3 => intro u hu; obtain ⟨s, _, rfl⟩ := List.mem_map.1 hu; rfl
      case q4 => have := HM2.out; unfold maxLen; omega
      case q5 => have := HM2.out; omega
      case q6 => simp
      intro g3 cap3 w3 hown3 hgrow3 _
      have hb3 : Below w2.heap.size w2 w3 := Below.grown (bl1 (Below.refl _ _) _) hgrow3 (bl1 (Below.refl _ _) _).size (fun q hq => (World.ownsRow.lt HOwn2.out q hq).1)
      have HB3 := Lib.hid (blN HB2.out hb3)
      have HX3 := Lib.hid (HO2.out.below hb3)
      have HY3 : Hid (Texts w3 (.slice (some ⟨g3, 0, none⟩) k cap3) m) := OwnTexts.texts (n := w2.heap.size) ⟨_, by rw [← HM2.out]; simpa using hown3⟩
      clear hown3 hgrow3 hb3
      obtain ⟨z0, z1, z2⟩ := HK.out w3 HB3.out
      go_wp2_with fail
      with_reducible refine (HDX.out _ _ _ HX3.out HY3.out (blN HB0.out HB3.out)).mono ?_
      rintro e w4 ⟨lv, rfl, ho4, hb4⟩
      have HL4 : Hid (Below w3.heap.size w3 w4) := hb4
      have HB4 := Lib.hid (blN HB3.out hb4)
      have HO4 := Lib.hid ho4
      clear hb4 z0 z1 z2 ho4
      obtain ⟨z0, z1, z2⟩ := HK.out w4 HB4.out
      go_wp2_with fail
      with_reducible refine (HRX.out _ (blN HB0.out HB4.out)).mono ?_
      rintro e w5 ⟨kv, rfl, ho5, hb5⟩
      have HL5 := Lib.hid (blN HL4.out hb5)
      have HB5 := Lib.hid (blN HB4.out hb5)
      have HO5 := Lib.hid (HO4.out.below hb5)
      have HP5 := Lib.hid ho5.texts
      clear hb5 z0 z1 z2 ho5
      go_wp2_with fail
      with_reducible refine (sameTexts_yes _ _ _ w5 HO5.out.texts HP5.out).mono ?_
      rintro e w6 ⟨rfl, hb6⟩
      have HL6 := Lib.hid (blN HL5.out hb6)
      have HB6 := Lib.hid (blN HB5.out hb6)
      have HO6 := Lib.hid (HO5.out.below hb6)
      clear hb6
      go_wp2_with fail
      with_reducible refine (spoilT_any HO6.out).mono ?_
      rintro e w7 ⟨rfl, hb7⟩
      have HL7 := Lib.hid (Below.trans HL6.out hb7)
      have HB7 := Lib.hid (Below.trans HB6.out (hb7.mono HB3.out.size))
      have HX7 := Lib.hid (HX3.out.below HL7.out)
      have HY7 := Lib.hid (HY3.out.below HL7.out)
      clear hb7
      go_wp2_with fail
      with_reducible refine (sameTexts_yes _ _ l w7 HX7.out (HV.out _ (blN HB0.out HB7.out))).mono ?_
      rintro e w8 ⟨rfl, hb8⟩
      have HB8 := Lib.hid (blN HB7.out hb8)
      have HY8 := Lib.hid (HY7.out.below hb8)
      clear hb8
      go_wp2_with fail
      with_reducible refine (sameTexts_yes _ _ m w8 HY8.out (HU.out _ (blN HB0.out HB8.out))).mono ?_
      rintro e w9 ⟨rfl, hb9⟩
      have HB9 := Lib.hid (blN HB8.out hb9)
      clear hb9
      go_wp2_with fail
      refine (HWK.out _ (blN HB0.out HB9.out)).mono ?_
      rintro e wa ⟨rfl, hba⟩
      have HBa := Lib.hid (blN HB9.out hba)
      clear hba
      go_wp2
      go_ret
      exact ⟨rfl, blN HB0.out HBa.out⟩
end
end Go.Proofs.YtbjhicnjeefiaaaGreatDoor
