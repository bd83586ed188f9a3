/-
  Walks of layer 31: the law DumpTexts.
-/
import Derived.Test.YtbjhicnjeefiaaaGreatDoorRefG
import Derived.Test.YtbjhicnjeefiaaaGreatDoorDumpD
import Derived.Test.YtbjhicnjeefiaaaGreatDoorAmong
import Derived.Test.YtbjhicnjeefiaaaGreatDoorAppendSrc
import Derived.Deep.Upon
namespace Go.Proofs.YtbjhicnjeefiaaaGreatDoor
open Go Go.RowKit Txt Sp

section
variable {P : Program} {w : World}
/-- append of nothing, at a plain region's list. -/
theorem wpList_append_nothing {ops : Array Oper} {rest : List Oper} {o : Oper} {a : Act} {Q : Exit → Act → World → Prop} (hgd : o.guard = none) (s x : Operand) (t : TypeId)
    (ho : o.op = .call { callee := .builtin .append, args := #[s, x], argTypes := #[t, t] }) (e : TypeId) (i : TypeInfo) (ht : P.underlying t = some (.slice e)) (hi : P.info? e = some i)
    (base : Option Addr) (sLen sCap : Nat) (hle : sLen ≤ sCap) (hs : a.eval s = .slice base sLen sCap) (v : Value) (hx : a.eval x = v) (hsrc : Src P i.size t v 0 [] w)
    (h : wpList P ops Q rest (a.put o.dst (.slice base sLen sCap)) w) : wpList P ops Q (o :: rest) a w := by
  refine wpList_plain hgd fun K hK => ?_
  have hr := run_append_nothing (P := P) w t t o.type e i ht hi base sLen sCap hle v hsrc
  unfold Oper.wp execOp
  simp only [ho, resolve, invoke, builtin, Sem.run_bind, Sem.run_pure, Result.andThen_ok, List.map_toArray, List.map_cons, List.map_nil, hs, hx, hr]
  exact hK _ _ h
end
section
set_option maxHeartbeats 8000000
set_option maxRecDepth 20000 in
theorem dumpTexts_any (w : World) (g : Sp.Geom) (v : Value) (l : List ByteArray) (x : Int) (hv : Texts w v l) (hl : l.length * 16 ≤ 140737488351232) (ht : TabOk w) (hm : MaxOk w) :
    Calls Tryz.prog 3 #[gV g, v, .int .i64 x] w fun e w' => e = .returned (.bool true) ∧ Below w.heap.size w w' := by
  have hsh := fun (W : World) (hW : Below w.heap.size w W) => rshape_any W g v l (hv.below hW)
  have hwk := fun (W : World) (hW : Below w.heap.size w W) => works31_any W (ht.below hW) (hm.below hW)
  obtain ⟨ad, n, cap, rfl, HN, hn2, HF⟩ := texts_facts hv
  by_cases hlong : shapeP g l ∧ 120 < n
  · rw [decide_eq_true hlong.1] at hsh
    have f1 : decide ((n : Int) > 120) = true := decide_eq_true (by omega)
    have f2 : (120 : Int) < (n : Int) := by omega
    clear hlong hv
    obtain ⟨ga, gb, gc⟩ := g
    unfold gV at hsh ⊢
    have HSH := Lib.hid hsh
    have HWK := Lib.hid hwk
    clear hsh hwk
    obtain ⟨W0, hW0⟩ : ∃ W, w.alloc (.cells #[.int .i64 ga, .int .i64 gb, .int .i64 gc] 23) = W := ⟨_, rfl⟩
    have hk := g_keep hW0
    have HB0 := Lib.hid hk.1
    have HK := Lib.hid hk.2
    clear hk
    obtain ⟨z0, z1, z2⟩ := HK.out W0 (Below.refl _ _)
    go_enter Tryz.func3, Tryz.ntmps3
    go_wp2_with fail
    clear z0 z1 z2
    refine (HSH.out _ HB0.out).mono ?_
    rintro e w1 ⟨rfl, hb1⟩
    have HB1 := Lib.hid (blN HB0.out hb1)
    clear hb1
    go_wp2_with fail
    refine (HWK.out _ HB1.out).mono ?_
    rintro e w2 ⟨rfl, hb2⟩
    have HB2 := Lib.hid (blN HB1.out hb2)
    clear hb2
    go_wp2
    go_ret
    exact ⟨rfl, HB2.out⟩
  · have hcase : (shapeP g l ∧ ¬ 120 < n) ∨ ¬ shapeP g l := by
      by_cases h : shapeP g l
      · exact Or.inl ⟨h, fun h2 => hlong ⟨h, h2⟩⟩
      · exact Or.inr h
    clear hlong
    by_cases hn0 : 0 < n
    rotate_left
    · obtain rfl : n = 0 := by omega
      obtain rfl : l = [] := List.eq_nil_of_length_eq_zero HN.out.symm
      have hs : ¬ shapeP g [] := fun h => by
        have h1 := Geom.size_bd h.1
        have h2 := h.2.1
        simp only [List.length_nil] at h2
        omega
      have htx := fun (W : World) (u : Value) (hu : Texts W u []) (hW : Below w.heap.size w W) => dtext_any W g u [] hu (ht.below hW) (hm.below hW)
      have hrx := fun (W : World) (hW : Below w.heap.size w W) => rtextN_any W g _ [] (hv.below hW)
      unfold TextPost at htx hrx
      have hli := fun (W : World) (s : ByteArray) (hW : Below w.heap.size w W) => dLine_any W g x s (ht.below hW) (hm.below hW)
      have hri := fun (W : World) (s : ByteArray) => rline_any W g x s
      unfold LinePost at hli hri
      have HV : Hid (∀ W, Below w.heap.size w W → Texts W _ []) := fun W hW => hv.below hW
      rw [decide_eq_false hs] at hsh
      clear hcase hs HF hn2 hn0
      obtain ⟨ia, ib, ic, id, ie⟩ := info_parts Tryz.infoText
      have HA : Hid (∀ W : World, Src Tryz.prog ia.size 24 (.slice ad 0 cap) 0 [] W) := fun W => by
        cases ad with
        | none => exact Src.ofNil W Tryz.underlying24 cap
        | some a => exact Src.ofSlice W Tryz.underlying24 a 0 cap [] (by simp) (fun j u h => by simp at h) (fun u h => by simp at h)
      clear ic id ie
      obtain ⟨ga, gb, gc⟩ := g
      unfold gV at hsh htx hrx hli hri ⊢
      have HSH := Lib.hid hsh
      have HWK := Lib.hid hwk
      have HTX := Lib.hid htx
      have HRX := Lib.hid hrx
      have HLI := Lib.hid hli
      have HRI := Lib.hid hri
      clear hsh hwk htx hrx hli hri
      obtain ⟨W0, hW0⟩ : ∃ W, w.alloc (.cells #[.int .i64 ga, .int .i64 gb, .int .i64 gc] 23) = W := ⟨_, rfl⟩
      have hk := g_keep hW0
      have HB0 := Lib.hid hk.1
      have HK := Lib.hid hk.2
      clear hk
      obtain ⟨z0, z1, z2⟩ := HK.out W0 (Below.refl _ _)
      go_enter Tryz.func3, Tryz.ntmps3
      go_wp2_with fail
      clear z0 z1 z2
      refine (HSH.out _ HB0.out).mono ?_
      rintro e w1 ⟨rfl, hb1⟩
      have HB1 : Hid (Below W0.heap.size W0 w1) := hb1
      clear hb1
      have HO : Hid (∀ W (q : Nat), Texts W (.slice (some ⟨q, 0, none⟩) 0 0) []) := fun W q => ⟨_, 0, rfl, Nat.le_refl _, Nat.zero_le _, fun h => absurd h (by simp)⟩
      go_upto_region 3 with fail
      have HB2 : Hid (Below W0.heap.size W0 (w1.alloc (.cells #[] 9))) := bl1 HB1.out _
      obtain ⟨z0, z1, z2⟩ := HK.out _ HB2.out
      go_wp2_with (at_builtin; refine wpList_append_nothing rfl _ _ _ rfl _ ia Tryz.underlying24 ib _ _ _ (Nat.le_refl _) rfl _ rfl (HA.out _) ?_)
      go_wp2_with fail
      with_reducible refine (HTX.out _ _ (HO.out _ _) (blN HB0.out HB2.out)).mono ?_
      rintro e w3 ⟨rfl, hb3⟩
      have HB3 := Lib.hid (blN HB2.out hb3)
      clear hb3 z0 z1 z2
      obtain ⟨z0, z1, z2⟩ := HK.out w3 HB3.out
      go_wp2_with fail
      refine (HRX.out _ (blN HB0.out HB3.out)).mono ?_
      rintro e w4 ⟨rfl, hb4⟩
      have HB4 := Lib.hid (blN HB3.out hb4)
      clear hb4 z0 z1 z2
      go_wp2_with fail
      with_reducible refine (sameTexts_yes _ _ [] w4 (HO.out _ _) (HV.out _ (blN HB0.out HB4.out))).mono ?_
      rintro e w5 ⟨rfl, hb5⟩
      have HB5 := Lib.hid (blN HB4.out hb5)
      clear hb5
      go_wp2_with fail
      refine (HWK.out _ (blN HB0.out HB5.out)).mono ?_
      rintro e w6 ⟨rfl, hb6⟩
      have HB6 := Lib.hid (blN HB5.out hb6)
      clear hb6
      obtain ⟨z0, z1, z2⟩ := HK.out w6 HB6.out
      go_wp2_with fail
      refine (HLI.out _ _ (blN HB0.out HB6.out)).mono ?_
      rintro e w8 ⟨rfl, hb8⟩
      have HB8 := Lib.hid (blN HB6.out hb8)
      clear hb8 z0 z1 z2
      obtain ⟨z0, z1, z2⟩ := HK.out w8 HB8.out
      go_wp2_with fail
      refine (HRI.out _ _).mono ?_
      rintro e w9 ⟨rfl, hb9⟩
      have HB9 := Lib.hid (blN HB8.out hb9)
      clear hb9 z0 z1 z2
      go_wp2
      go_ret
      exact ⟨rfl, blN HB0.out HB9.out⟩
    have HV : Hid (∀ W, Below w.heap.size w W → Texts W _ l) := fun W hW => hv.below hW
    have htx := fun (W : World) (u : Value) (hu : Texts W u l) (hW : Below w.heap.size w W) => dtext_any W g u l hu (ht.below hW) (hm.below hW)
    have hrx := fun (W : World) (hW : Below w.heap.size w W) => rtextN_any W g _ l (hv.below hW)
    unfold TextPost at htx hrx
    have hli := fun (W : World) (s : ByteArray) (hW : Below w.heap.size w W) => dLine_any W g x s (ht.below hW) (hm.below hW)
    have hri := fun (W : World) (s : ByteArray) => rline_any W g x s
    unfold LinePost at hli hri
    obtain ⟨b, o, x0, rfl, hb, hx0, hc0⟩ := HF.out 0 hn0
    obtain ⟨ia, ib, ic, id, ie⟩ := info_parts Tryz.infoText
    rcases hcase with ⟨hs, hle⟩ | hs
    · rw [decide_eq_true hs] at hsh
      have f1 : decide ((n : Int) > 120) = false := decide_eq_false (by omega)
      have f2 : ¬ (120 : Int) < (n : Int) := by omega
      obtain ⟨ga, gb, gc⟩ := g
      unfold gV at hsh htx hrx hli hri ⊢
      have HSH := Lib.hid hsh
      have HWK := Lib.hid hwk
      have HTX := Lib.hid htx
      have HRX := Lib.hid hrx
      have HLI := Lib.hid hli
      have HRI := Lib.hid hri
      clear hsh hwk htx hrx hli hri
      obtain ⟨W0, hW0⟩ : ∃ W, w.alloc (.cells #[.int .i64 ga, .int .i64 gb, .int .i64 gc] 23) = W := ⟨_, rfl⟩
      have hk := g_keep hW0
      have HB0 := Lib.hid hk.1
      have HK := Lib.hid hk.2
      clear hk
      obtain ⟨z0, z1, z2⟩ := HK.out W0 (Below.refl _ _)
      go_enter Tryz.func3, Tryz.ntmps3
      go_wp2_with fail
      clear z0 z1 z2
      refine (HSH.out _ HB0.out).mono ?_
      rintro e w1 ⟨rfl, hb1⟩
      have HB1 : Hid (Below W0.heap.size W0 w1) := hb1
      clear hb1
      go_upto_region 3 with fail
      have HOwn : Hid ((w1.alloc (.cells #[] 9)).ownsRow W0.heap.size 9 1 (.slice (some ⟨w1.heap.size, 0, none⟩) 0 0) 0 []) := OwnR.block (f := fun s : ByteArray => [Value.string s]) (l := []) (heapNew w1 _) rfl rfl HB1.out.size (Nat.zero_le _)
      have hlen : (l.map Value.string).length = n := by rw [List.length_map, HN.out]
      go_wp2_with (at_builtin; refine wpList_append_lies _ rfl _ _ _ rfl W0.heap.size 9 ia _ 1 16 Tryz.underlying24 ib ic id ie rfl (by decide) _ 0 [] rfl HOwn.out ⟨b, o, none⟩ n cap (l.map Value.string) rfl ?c1 ?c2 ?c3 hn0 ?c4 ?c5 ?c6 (w1.heap.size + 1) (by simp) ?c7)
      case c1 => rw [hlen, Nat.mul_one]
      case c2 =>
        intro j u hu
        have hj : j < n := by rw [← hlen]; exact (List.getElem?_eq_some_iff.1 hu).1
        obtain ⟨b2, o2, x2, he, hb2, hx2, hc2⟩ := HF.out j hj
        cases he
        rw [List.getElem?_map, hx2] at hu
        have e : Value.string x2 = u := Option.some.inj hu
        rw [← e, show (⟨b, o, none⟩ : Addr).add j = ⟨b, o + j, none⟩ by unfold Addr.add; split <;> simp_all]
        exact ((bl1 (blN HB0.out HB1.out) _).cell (p := ⟨b, o + j, none⟩) hb2).trans hc2
      case c3 => intro u hu; obtain ⟨s, _, rfl⟩ := List.mem_map.1 hu; rfl
      case c4 => have := HN.out; unfold maxLen; omega
      case c5 => have := HN.out; omega
      case c6 => have := HB1.out.size; simp; omega
      case c7 =>
        intro g2 cap2 w2 hown2 hgrow2 _ _
        have HB2 : Hid (Below W0.heap.size W0 w2) := Below.grown (bl1 HB1.out _) hgrow2 (bl1 HB1.out _).size (fun q hq => (World.ownsRow.lt HOwn.out q hq).1)
        have HO2 : Hid (OwnTexts W0.heap.size w2 (.slice (some ⟨g2, 0, none⟩) n cap2) l) := ⟨_, by rw [← HN.out]; simpa using hown2⟩
        clear hown2 hgrow2
        obtain ⟨z0, z1, z2⟩ := HK.out w2 HB2.out
        go_wp2_with fail
        with_reducible refine (HTX.out _ _ HO2.out.texts (blN HB0.out HB2.out)).mono ?_
        rintro e w3 ⟨rfl, hb3⟩
        have HB3 := Lib.hid (blN HB2.out hb3)
        have HO3 := Lib.hid (HO2.out.texts.below hb3)
        clear hb3 z0 z1 z2
        obtain ⟨z0, z1, z2⟩ := HK.out w3 HB3.out
        go_wp2_with fail
        refine (HRX.out _ (blN HB0.out HB3.out)).mono ?_
        rintro e w4 ⟨rfl, hb4⟩
        have HB4 := Lib.hid (blN HB3.out hb4)
        have HO4 := Lib.hid (HO3.out.below hb4)
        clear hb4 z0 z1 z2
        go_wp2_with fail
        with_reducible refine (sameTexts_yes _ _ l w4 HO4.out (HV.out _ (blN HB0.out HB4.out))).mono ?_
        rintro e w5 ⟨rfl, hb5⟩
        have HB5 := Lib.hid (blN HB4.out hb5)
        clear hb5
        go_wp2_with fail
        refine (HWK.out _ (blN HB0.out HB5.out)).mono ?_
        rintro e w6 ⟨rfl, hb6⟩
        have HB6 := Lib.hid (blN HB5.out hb6)
        clear hb6
        go_wp2_with fail
        refine (among_big w6 x n hn0 (by have := HN.out; omega)).mono ?_
        rintro e w7 ⟨r, hr, rfl, hw7⟩
        subst hw7
        obtain ⟨b2, o2, s, he, hb2, hx2, hc2⟩ := HF.out r hr
        cases he
        have c6 := ((blN HB0.out HB6.out).cell (p := ⟨b, o + r, none⟩) hb2).trans hc2
        have hr2 : (r : Int) < (n : Int) := by omega
        obtain ⟨z0, z1, z2⟩ := HK.out w7 HB6.out
        go_wp2_with fail
        refine (HLI.out _ _ (blN HB0.out HB6.out)).mono ?_
        rintro e w8 ⟨rfl, hb8⟩
        have HB8 := Lib.hid (blN HB6.out hb8)
        clear hb8 z0 z1 z2
        obtain ⟨z0, z1, z2⟩ := HK.out w8 HB8.out
        go_wp2_with fail
        refine (HRI.out _ _).mono ?_
        rintro e w9 ⟨rfl, hb9⟩
        have HB9 := Lib.hid (blN HB8.out hb9)
        clear hb9 z0 z1 z2
        go_wp2
        go_ret
        exact ⟨rfl, blN HB0.out HB9.out⟩
    · rw [decide_eq_false hs] at hsh
      obtain ⟨ga, gb, gc⟩ := g
      unfold gV at hsh htx hrx hli hri ⊢
      have HSH := Lib.hid hsh
      have HWK := Lib.hid hwk
      have HTX := Lib.hid htx
      have HRX := Lib.hid hrx
      have HLI := Lib.hid hli
      have HRI := Lib.hid hri
      clear hsh hwk htx hrx hli hri
      obtain ⟨W0, hW0⟩ : ∃ W, w.alloc (.cells #[.int .i64 ga, .int .i64 gb, .int .i64 gc] 23) = W := ⟨_, rfl⟩
      have hk := g_keep hW0
      have HB0 := Lib.hid hk.1
      have HK := Lib.hid hk.2
      clear hk
      obtain ⟨z0, z1, z2⟩ := HK.out W0 (Below.refl _ _)
      go_enter Tryz.func3, Tryz.ntmps3
      go_wp2_with fail
      clear z0 z1 z2
      refine (HSH.out _ HB0.out).mono ?_
      rintro e w1 ⟨rfl, hb1⟩
      have HB1 : Hid (Below W0.heap.size W0 w1) := hb1
      clear hb1
      go_upto_region 3 with fail
      have HOwn : Hid ((w1.alloc (.cells #[] 9)).ownsRow W0.heap.size 9 1 (.slice (some ⟨w1.heap.size, 0, none⟩) 0 0) 0 []) := OwnR.block (f := fun s : ByteArray => [Value.string s]) (l := []) (heapNew w1 _) rfl rfl HB1.out.size (Nat.zero_le _)
      have hlen : (l.map Value.string).length = n := by rw [List.length_map, HN.out]
      go_wp2_with (at_builtin; refine wpList_append_lies _ rfl _ _ _ rfl W0.heap.size 9 ia _ 1 16 Tryz.underlying24 ib ic id ie rfl (by decide) _ 0 [] rfl HOwn.out ⟨b, o, none⟩ n cap (l.map Value.string) rfl ?c1 ?c2 ?c3 hn0 ?c4 ?c5 ?c6 (w1.heap.size + 1) (by simp) ?c7)
      case c1 => rw [hlen, Nat.mul_one]
      case c2 =>
        intro j u hu
        have hj : j < n := by rw [← hlen]; exact (List.getElem?_eq_some_iff.1 hu).1
        obtain ⟨b2, o2, x2, he, hb2, hx2, hc2⟩ := HF.out j hj
        cases he
        rw [List.getElem?_map, hx2] at hu
        have e : Value.string x2 = u := Option.some.inj hu
        rw [← e, show (⟨b, o, none⟩ : Addr).add j = ⟨b, o + j, none⟩ by unfold Addr.add; split <;> simp_all]
        exact ((bl1 (blN HB0.out HB1.out) _).cell (p := ⟨b, o + j, none⟩) hb2).trans hc2
      case c3 => intro u hu; obtain ⟨s, _, rfl⟩ := List.mem_map.1 hu; rfl
      case c4 => have := HN.out; unfold maxLen; omega
      case c5 => have := HN.out; omega
      case c6 => have := HB1.out.size; simp; omega
      case c7 =>
        intro g2 cap2 w2 hown2 hgrow2 _ _
        have HB2 : Hid (Below W0.heap.size W0 w2) := Below.grown (bl1 HB1.out _) hgrow2 (bl1 HB1.out _).size (fun q hq => (World.ownsRow.lt HOwn.out q hq).1)
        have HO2 : Hid (OwnTexts W0.heap.size w2 (.slice (some ⟨g2, 0, none⟩) n cap2) l) := ⟨_, by rw [← HN.out]; simpa using hown2⟩
        clear hown2 hgrow2
        obtain ⟨z0, z1, z2⟩ := HK.out w2 HB2.out
        go_wp2_with fail
        with_reducible refine (HTX.out _ _ HO2.out.texts (blN HB0.out HB2.out)).mono ?_
        rintro e w3 ⟨rfl, hb3⟩
        have HB3 := Lib.hid (blN HB2.out hb3)
        have HO3 := Lib.hid (HO2.out.texts.below hb3)
        clear hb3 z0 z1 z2
        obtain ⟨z0, z1, z2⟩ := HK.out w3 HB3.out
        go_wp2_with fail
        refine (HRX.out _ (blN HB0.out HB3.out)).mono ?_
        rintro e w4 ⟨rfl, hb4⟩
        have HB4 := Lib.hid (blN HB3.out hb4)
        have HO4 := Lib.hid (HO3.out.below hb4)
        clear hb4 z0 z1 z2
        go_wp2_with fail
        with_reducible refine (sameTexts_yes _ _ l w4 HO4.out (HV.out _ (blN HB0.out HB4.out))).mono ?_
        rintro e w5 ⟨rfl, hb5⟩
        have HB5 := Lib.hid (blN HB4.out hb5)
        clear hb5
        go_wp2_with fail
        refine (HWK.out _ (blN HB0.out HB5.out)).mono ?_
        rintro e w6 ⟨rfl, hb6⟩
        have HB6 := Lib.hid (blN HB5.out hb6)
        clear hb6
        go_wp2_with fail
        refine (among_big w6 x n hn0 (by have := HN.out; omega)).mono ?_
        rintro e w7 ⟨r, hr, rfl, hw7⟩
        subst hw7
        obtain ⟨b2, o2, s, he, hb2, hx2, hc2⟩ := HF.out r hr
        cases he
        have c6 := ((blN HB0.out HB6.out).cell (p := ⟨b, o + r, none⟩) hb2).trans hc2
        have hr2 : (r : Int) < (n : Int) := by omega
        obtain ⟨z0, z1, z2⟩ := HK.out w7 HB6.out
        go_wp2_with fail
        refine (HLI.out _ _ (blN HB0.out HB6.out)).mono ?_
        rintro e w8 ⟨rfl, hb8⟩
        have HB8 := Lib.hid (blN HB6.out hb8)
        clear hb8 z0 z1 z2
        obtain ⟨z0, z1, z2⟩ := HK.out w8 HB8.out
        go_wp2_with fail
        refine (HRI.out _ _).mono ?_
        rintro e w9 ⟨rfl, hb9⟩
        have HB9 := Lib.hid (blN HB8.out hb9)
        clear hb9 z0 z1 z2
        go_wp2
        go_ret
        exact ⟨rfl, blN HB0.out HB9.out⟩
end
end Go.Proofs.YtbjhicnjeefiaaaGreatDoor
