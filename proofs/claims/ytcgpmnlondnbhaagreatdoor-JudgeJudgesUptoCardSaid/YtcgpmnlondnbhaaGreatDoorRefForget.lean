/-
  The reference's walks: forget.
-/
import Derived.Test.YtcgpmnlondnbhaaGreatDoorRefMake
import Derived.Deep.DeepCutAuto
import Derived.Deep.CutBlock
import Derived.IntWalk
namespace Go.Proofs.YtcgpmnlondnbhaaGreatDoor
open Go Go.RowKit Txt Sp

theorem add_zero_off (g j : Nat) : ((⟨g, 0, none⟩ : Addr).add j) = ⟨g, j, none⟩ := by
  unfold Addr.add
  split
  · rename_i h; subst h; rfl
  · simp
theorem add_plain_off (g o j : Nat) : ((⟨g, o, none⟩ : Addr).add j) = ⟨g, o + j, none⟩ := by
  unfold Addr.add
  split
  · rename_i h; subst h; rfl
  · rfl
theorem names_of {base : Nat} {w : World} {v : Value} {l : List (List ByteArray × Nat)} {m : Nat} {xs : List Value} (hx : l.flatMap nameC = xs) (hl : l.length = m) (h : w.ownsRow base 77 2 v m xs) : NamesAt base w v l := by
  unfold NamesAt
  rw [hl, hx]
  exact h
theorem things_of {base : Nat} {w : World} {v : Value} {l : List (Nat × Bool × ByteArray)} {m : Nat} {xs : List Value} (hx : l.flatMap thingC = xs) (hl : l.length = m) (h : w.ownsRow base 61 3 v m xs) : ThingsAt base w v l := by
  unfold ThingsAt
  rw [hl, hx]
  exact h

section
set_option maxHeartbeats 8000000
variable {base : Nat} {w : World} {D : Nat → Prop} {r : Nat} {t : Sp.Tree} {vT vN : Value}
set_option maxRecDepth 20000 in
theorem rforget_any (h : RefAt base w D r t vT vN) (hok : t.Ok) (hf : Few t) {k i : Nat} {p : List ByteArray} (hk : t.names[k]? = some (p, i)) :
    Calls Tryz.prog 65 #[ptr r, .int .i64 (k : Int)] w (StandPost base w D r (t.forget p)) := by
  obtain ⟨i2, hi, hz0, hz1, hz2⟩ := info_parts infoName
  obtain ⟨i3, hj, hj0, hj1, hj2⟩ := info_parts infoThing
  have hkl := (List.getElem?_eq_some_iff.1 hk).1
  obtain ⟨gN, cN, rfl, _, _⟩ := h.names.form (by omega)
  obtain ⟨_, n0, _⟩ := h.cells
  obtain ⟨_, f1, _⟩ := h.free
  obtain ⟨_, n1⟩ := h.names.at' hk
  have hrl := h.lt
  have hcap := (row_shape h.names)
  obtain ⟨n, hn⟩ : ∃ n, t.names.length = n := ⟨_, rfl⟩
  have hn6 : n ≤ 1000000 := by rw [← hn]; exact hf.names
  have hnc : n ≤ cN ∧ cN ≤ maxLen := by
    obtain ⟨ad, cap, e, h1, h2⟩ := hcap
    cases e
    rw [← hn]
    exact ⟨h1, h2⟩
  obtain ⟨hnc1, hnc2⟩ := hnc
  unfold maxLen at hnc2
  rw [hn] at n0 hkl
  have hmem := List.mem_of_getElem? hk
  have hfd := (find_mem hok).2 hmem
  have herase := key_erase hok.nodup hk
  have hthere := hok.there p i hmem
  obtain ⟨m, hml, hmt, hmj⟩ := thing_ix hok (there_idOf hok (find_idOf hok hfd))
  have hterase := key_erase hok.ids hmt
  obtain ⟨t1, ht1⟩ : ∃ t1 : Sp.Tree, ({ t with names := t.names.take k ++ t.names.drop (k + 1) } : Sp.Tree) = t1 := ⟨_, rfl⟩
  have hforget : t.forget p = if t1.links i = 0 then { t1 with things := t.things.take m ++ t.things.drop (m + 1) } else t1 := by
    unfold Sp.Tree.forget
    rw [hfd]
    simp only
    rw [← ht1, ← herase, ← hterase]
    rfl
  have HR := Lib.hid h
  have HN := Lib.hid hn
  have HFg := Lib.hid hforget
  have HT1 := Lib.hid ht1
  have HMt := Lib.hid hmt
  have HMj := Lib.hid hmj
  have HF := Lib.hid hf
  have hk0 : (0 : Int) ≤ (k : Int) := by omega
  have hk1 : (k : Int) < (n : Int) := by omega
  have hne0 : w.heap.size ≠ r := by omega
  have hne1 : r ≠ w.heap.size := by omega
  clear h hn hforget ht1 hmt hmj hf hmem hfd herase hterase hthere hcap hk hok
  unfold ptr
  go_enter Tryz.func65, Tryz.ntmps65
  go_upto_region 1 with fail
  go_cut [] (fun wx => RefTo base w D r t1 wx)
  case first =>
    obtain ⟨L1, hL1⟩ : ∃ L1, (t.names.take k).flatMap nameC = L1 := ⟨_, rfl⟩
    obtain ⟨L2, hL2⟩ : ∃ L2, (t.names.drop (k + 1)).flatMap nameC = L2 := ⟨_, rfl⟩
    have HLen1 : Hid (L1.length = k * 2) := by show L1.length = _; rw [← hL1, flat_length nameC_len, List.length_take]; have := HN.out; congr 1; omega
    have HLen2 : Hid (L2.length = (n - (k + 1)) * 2) := by show L2.length = _; rw [← hL2, flat_length nameC_len, List.length_drop, HN.out]
    have HOne1 : Hid (∀ u ∈ L1, u.oneCell' = true) := by rw [← hL1]; exact names_one _
    have HOne2 : Hid (∀ u ∈ L2, u.oneCell' = true) := by rw [← hL2]; exact names_one _
    have hall : ∀ W, Below w.heap.size w W → ∀ j u, (t.names.flatMap nameC)[j]? = some u → W.cell? ⟨gN, j, none⟩ = some u := fun W hW j u hu => by
      rw [hW.cell (p := ⟨gN, j, none⟩) (HR.out.names.lt gN rfl).2]
      have h1 := World.ownsRow.cells HR.out.names (g := gN) rfl j u hu
      rw [add_zero_off] at h1
      exact h1
    have HSrc1 : Hid (∀ W, Below w.heap.size w W → ∀ a, some (⟨gN, 0, none⟩ : Addr) = some a → ∀ j u, L1[j]? = some u → W.cell? (a.add j) = some u) := fun W hW a ha j u hu => by
      cases ha
      rw [add_zero_off]
      refine hall W hW j u ?_
      rw [← hL1, ← flat_take nameC_len _ _ (by have := HN.out; omega), List.getElem?_take] at hu
      split at hu
      · exact hu
      · cases hu
    have HSrc2 : Hid (∀ W, Below w.heap.size w W → ∀ a, some (⟨gN, (k + 1) * 2, none⟩ : Addr) = some a → ∀ j u, L2[j]? = some u → W.cell? (a.add j) = some u) := fun W hW a ha j u hu => by
      cases ha
      rw [add_plain_off]
      refine hall W hW _ u ?_
      rw [← hL2, ← flat_drop nameC_len _ _ (by have := HN.out; omega), List.getElem?_drop] at hu
      exact hu
    have HXa : Hid ((t.names.take k ++ t.names.drop (k + 1)).flatMap nameC = L1 ++ L2) := by show _ = _; rw [List.flatMap_append, hL1, hL2]
    have HLa : Hid ((t.names.take k ++ t.names.drop (k + 1)).length = k + (n - (k + 1))) := by show _ = _; rw [List.length_append, List.length_take, List.length_drop, HN.out]; omega
    clear hL1 hL2 hall
    have hx0 : (k : Int) ≤ (cN : Int) := by omega
    have hx1 : (0 : Int) ≤ (k : Int) + 1 := by omega
    have hx2 : (k : Int) + 1 ≤ (n : Int) := by omega
    have hx3 : (k : Int) + 1 ≤ (cN : Int) := by omega
    by_cases hck : cN = k + 1
    · have hnk : n = k + 1 := by omega
      have h20 : L2 = [] := List.length_eq_zero_iff.1 (by rw [HLen2.out, hnk, Nat.sub_self, Nat.zero_mul])
      have HXb : Hid ((t.names.take k ++ t.names.drop (k + 1)).flatMap nameC = L1 ++ []) := by show _ = _; rw [HXa.out, h20]
      have HLb : Hid ((t.names.take k ++ t.names.drop (k + 1)).length = k + 0) := by show _ = _; rw [HLa.out, hnk, Nat.sub_self]
      subst hnk hck
      clear h20
      have hx4 : (k : Int) ≤ (k : Int) + 1 := by omega
      have e1 : IntKind.i64.wrap ((k : Int) + 1) = (k : Int) + 1 := IntWalk.i64_in _ (by omega)
      have e2 : ((k : Int) + 1).toNat = k + 1 := by omega
      go_region_law (first
        | (refine step_append_src _ (by rfl) (.tmp 15) (.tmp 21) 63 (by rfl) w.heap.size 77 i2 _ 2 24 Tryz.underlying63 hi hz0 hz1 hz2 (by rfl) (by decide) _ 0 0 [] (by rfl) (own_lit0 w _ _ (by simp) (heap_alloc_new _ _)) (some ⟨gN, 0, none⟩) k (k + 1) (by rfl) (fun h => by cases h) L1 HLen1.out (HSrc1.out _ (by repeat' first | exact Below.refl _ _ | exact HB1.out | refine below_al ?_ _ | refine below_dr ?_)) HOne1.out (by unfold maxLen; omega) (by omega) ((by repeat' first | exact Below.refl _ _ | exact HB1.out | refine below_al ?_ _ | refine below_dr ?_) : Below w.heap.size w _).size ?_
           intro g1 cap1 w3 hown1 hgrow1 hat1
           have HB1 : Hid (Below w.heap.size w w3) := Below.grown ((by repeat' first | exact Below.refl _ _ | exact HB1.out | refine below_al ?_ _ | refine below_dr ?_) : Below w.heap.size w _) hgrow1 ((by repeat' first | exact Below.refl _ _ | exact HB1.out | refine below_al ?_ _ | refine below_dr ?_) : Below w.heap.size w _).size (fun k hk => by cases hk; omega)
           have HOwn1 : Hid (w3.ownsRow w.heap.size 77 2 (.slice (some ⟨g1, 0, none⟩) k cap1) k L1) := (by rw [Nat.zero_add, List.nil_append] at hown1; exact hown1)
           have c0a : w3.cell? ⟨r, 1, none⟩ = _ := (HB1.out.cell (p := ⟨r, 1, none⟩) hrl).trans n0
           clear hown1 hgrow1 hat1)
        | (refine step_append_src _ (by rfl) (.tmp 22) (.tmp 29) 63 (by rfl) w.heap.size 77 i2 _ 2 24 Tryz.underlying63 hi hz0 hz1 hz2 (by rfl) (by decide) _ k _ L1 (by rfl) HOwn1.out (some ⟨gN, 0, none⟩) 0 0 (by rfl) (fun h => by cases h) [] rfl (fun _ _ j u hu => by simp at hu) (fun u hu => by cases hu) (by unfold maxLen; omega) (by omega) HB1.out.size ?_
           intro g2 cap2 w4 hown2 hgrow2 hat2
           have hb2 : Below w.heap.size w w4 := Below.grown HB1.out hgrow2 HB1.out.size (fun k hk => by cases hk; exact (HOwn1.out.lt _ rfl).1)
           have hset := HR.out.setN hb2 (names_of HXb.out HLb.out hown2)
           have HE := Lib.hid hset
           have c0b : w4.cell? ⟨r, 1, none⟩ = _ := (hb2.cell (p := ⟨r, 1, none⟩) hrl).trans n0
           have f0b : w4.frozen? ⟨r, 1, none⟩ = _ := (hb2.frozen (p := ⟨r, 1, none⟩) hrl).trans f1
           clear hown2 hgrow2 hat2 hb2 hset))
      all_goals
        go_wp2_with fail
        go_meet
        case rel =>
          rw [← HT1.out]
          exact ⟨_, _, HE.out.1, HE.out.2⟩
    · have e1 : IntKind.i64.wrap ((k : Int) + 1) = (k : Int) + 1 := IntWalk.i64_in _ (by omega)
      have e2 : ((k : Int) + 1).toNat = k + 1 := by omega
      go_region_law (first
        | (refine step_append_src _ (by rfl) (.tmp 15) (.tmp 21) 63 (by rfl) w.heap.size 77 i2 _ 2 24 Tryz.underlying63 hi hz0 hz1 hz2 (by rfl) (by decide) _ 0 0 [] (by rfl) (own_lit0 w _ _ (by simp) (heap_alloc_new _ _)) (some ⟨gN, 0, none⟩) k cN (by rfl) (fun h => by cases h) L1 HLen1.out (HSrc1.out _ (by repeat' first | exact Below.refl _ _ | exact HB1.out | refine below_al ?_ _ | refine below_dr ?_)) HOne1.out (by unfold maxLen; omega) (by omega) ((by repeat' first | exact Below.refl _ _ | exact HB1.out | refine below_al ?_ _ | refine below_dr ?_) : Below w.heap.size w _).size ?_
           intro g1 cap1 w3 hown1 hgrow1 hat1
           have HB1 : Hid (Below w.heap.size w w3) := Below.grown ((by repeat' first | exact Below.refl _ _ | exact HB1.out | refine below_al ?_ _ | refine below_dr ?_) : Below w.heap.size w _) hgrow1 ((by repeat' first | exact Below.refl _ _ | exact HB1.out | refine below_al ?_ _ | refine below_dr ?_) : Below w.heap.size w _).size (fun k hk => by cases hk; omega)
           have HOwn1 : Hid (w3.ownsRow w.heap.size 77 2 (.slice (some ⟨g1, 0, none⟩) k cap1) k L1) := (by rw [Nat.zero_add, List.nil_append] at hown1; exact hown1)
           have c0a : w3.cell? ⟨r, 1, none⟩ = _ := (HB1.out.cell (p := ⟨r, 1, none⟩) hrl).trans n0
           clear hown1 hgrow1 hat1)
        | (refine step_append_src _ (by rfl) (.tmp 22) (.tmp 29) 63 (by rfl) w.heap.size 77 i2 _ 2 24 Tryz.underlying63 hi hz0 hz1 hz2 (by rfl) (by decide) _ k _ L1 (by rfl) HOwn1.out (some ⟨gN, (k + 1) * 2, none⟩) (n - (k + 1)) (cN - (k + 1)) (by rfl) (fun h => by cases h) L2 HLen2.out (HSrc2.out _ HB1.out) HOne2.out (by unfold maxLen; omega) (by omega) HB1.out.size ?_
           intro g2 cap2 w4 hown2 hgrow2 hat2
           have hb2 : Below w.heap.size w w4 := Below.grown HB1.out hgrow2 HB1.out.size (fun k hk => by cases hk; exact (HOwn1.out.lt _ rfl).1)
           have hset := HR.out.setN hb2 (names_of HXa.out HLa.out hown2)
           have HE := Lib.hid hset
           have c0b : w4.cell? ⟨r, 1, none⟩ = _ := (hb2.cell (p := ⟨r, 1, none⟩) hrl).trans n0
           have f0b : w4.frozen? ⟨r, 1, none⟩ = _ := (hb2.frozen (p := ⟨r, 1, none⟩) hrl).trans f1
           clear hown2 hgrow2 hat2 hb2 hset))
      all_goals
        go_wp2_with fail
        go_meet
        case rel =>
          rw [← HT1.out]
          exact ⟨_, _, HE.out.1, HE.out.2⟩
  case rest =>
  obtain ⟨vT1, vN1, hr1, hT1⟩ := hcut
  have HTC := Lib.hid hT1
  have hrl := hr1.lt
  obtain ⟨lk, hlk⟩ : ∃ lk, t1.links i = lk := ⟨_, rfl⟩
  have HLk := Lib.hid hlk
  have hn1 : t1.names.length ≤ 1000000 := by
    rw [← HT1.out]
    have := HF.out.names
    simp only [List.length_append, List.length_take, List.length_drop]
    omega
  have hth1 : t1.things = t.things := by rw [← HT1.out]
  have HTh1 := Lib.hid hth1
  have HN1 := Lib.hid hn1
  have HR1 := Lib.hid hr1
  clear hr1 hlk hn1 hT1 hth1 n0 n1 f1 HR
  go_wp2_with fail
  refine (rlinks_any HR1.out i HN1.out).mono ?_
  rw [HLk.out]
  rintro e w2 ⟨rfl, rfl⟩
  by_cases hl0 : lk = 0
  rotate_left
  · have q : (0 : Int) < (lk : Int) := by omega
    have HFz : Hid (t.forget p = t1) := by show _ = _; rw [HFg.out, HLk.out, if_neg hl0]
    clear hl0
    go_wp2
    go_end0
    refine ⟨rfl, ?_⟩
    rw [HFz.out]
    exact ⟨_, _, HR1.out, HTC.out⟩
  · subst hl0
    have HFz : Hid (t.forget p = { t1 with things := t.things.take m ++ t.things.drop (m + 1) }) := by show _ = _; rw [HFg.out, HLk.out, if_pos rfl]
    go_wp2_with fail
    refine (rthing_any HR1.out (by rw [HTh1.out]; exact HMt.out) (by rw [HTh1.out]; exact HMj.out) (by rw [HTh1.out]; exact HF.out.things)).mono ?_
    rintro e w2 ⟨rfl, rfl⟩
    have hthr := HR1.out.things
    rw [HTh1.out] at hthr
    obtain ⟨gT, cT, rfl, _, _⟩ := hthr.form (by omega)
    obtain ⟨ad, cap, e1, hnT1, hnT2⟩ := row_shape hthr
    cases e1
    obtain ⟨t0, _, _⟩ := HR1.out.cells
    obtain ⟨f0, _, _⟩ := HR1.out.free
    obtain ⟨nT, hnT⟩ : ∃ nT, t.things.length = nT := ⟨_, rfl⟩
    have hnT6 : nT ≤ 1000000 := by rw [← hnT]; exact HF.out.things
    rw [hnT] at hml hnT1 t0
    unfold maxLen at hnT2
    have HNT := Lib.hid hnT
    have HRowT := Lib.hid hthr
    have hm0 : (0 : Int) ≤ (m : Int) := by omega
    have hm1 : (m : Int) < (nT : Int) := by omega
    have hnf0 : wc.heap.size ≠ r := by omega
    have hnf1 : r ≠ wc.heap.size := by omega
    clear hnT hthr
    go_wp2_with fail
    obtain ⟨L1, hL1⟩ : ∃ L1, (t.things.take m).flatMap thingC = L1 := ⟨_, rfl⟩
    obtain ⟨L2, hL2⟩ : ∃ L2, (t.things.drop (m + 1)).flatMap thingC = L2 := ⟨_, rfl⟩
    have HLen1 : Hid (L1.length = m * 3) := by show L1.length = _; rw [← hL1, flat_length thingC_len, List.length_take]; have := HNT.out; congr 1; omega
    have HLen2 : Hid (L2.length = (nT - (m + 1)) * 3) := by show L2.length = _; rw [← hL2, flat_length thingC_len, List.length_drop, HNT.out]
    have HOne1 : Hid (∀ u ∈ L1, u.oneCell' = true) := by rw [← hL1]; exact things_one _
    have HOne2 : Hid (∀ u ∈ L2, u.oneCell' = true) := by rw [← hL2]; exact things_one _
    have hall : ∀ W, Below wc.heap.size wc W → ∀ j u, (t.things.flatMap thingC)[j]? = some u → W.cell? ⟨gT, j, none⟩ = some u := fun W hW j u hu => by
      rw [hW.cell (p := ⟨gT, j, none⟩) (HRowT.out.lt gT rfl).2]
      have h1 := World.ownsRow.cells HRowT.out (g := gT) rfl j u hu
      rw [add_zero_off] at h1
      exact h1
    have HSrc1 : Hid (∀ W, Below wc.heap.size wc W → ∀ a, some (⟨gT, 0, none⟩ : Addr) = some a → ∀ j u, L1[j]? = some u → W.cell? (a.add j) = some u) := fun W hW a ha j u hu => by
      cases ha
      rw [add_zero_off]
      refine hall W hW j u ?_
      rw [← hL1, ← flat_take thingC_len _ _ (by have := HNT.out; omega), List.getElem?_take] at hu
      split at hu
      · exact hu
      · cases hu
    have HSrc2 : Hid (∀ W, Below wc.heap.size wc W → ∀ a, some (⟨gT, (m + 1) * 3, none⟩ : Addr) = some a → ∀ j u, L2[j]? = some u → W.cell? (a.add j) = some u) := fun W hW a ha j u hu => by
      cases ha
      rw [add_plain_off]
      refine hall W hW _ u ?_
      rw [← hL2, ← flat_drop thingC_len _ _ (by have := HNT.out; omega), List.getElem?_drop] at hu
      exact hu
    have HXa : Hid ((t.things.take m ++ t.things.drop (m + 1)).flatMap thingC = L1 ++ L2) := by show _ = _; rw [List.flatMap_append, hL1, hL2]
    have HLa : Hid ((t.things.take m ++ t.things.drop (m + 1)).length = m + (nT - (m + 1))) := by show _ = _; rw [List.length_append, List.length_take, List.length_drop, HNT.out]; omega
    clear hL1 hL2 hall
    have hx0 : (m : Int) ≤ (cT : Int) := by omega
    have hx1 : (0 : Int) ≤ (m : Int) + 1 := by omega
    have hx2 : (m : Int) + 1 ≤ (nT : Int) := by omega
    have hx3 : (m : Int) + 1 ≤ (cT : Int) := by omega
    by_cases hck : cT = m + 1
    · have hnk : nT = m + 1 := by omega
      have h20 : L2 = [] := List.length_eq_zero_iff.1 (by rw [HLen2.out, hnk, Nat.sub_self, Nat.zero_mul])
      have HXb : Hid ((t.things.take m ++ t.things.drop (m + 1)).flatMap thingC = L1 ++ []) := by show _ = _; rw [HXa.out, h20]
      have HLb : Hid ((t.things.take m ++ t.things.drop (m + 1)).length = m + 0) := by show _ = _; rw [HLa.out, hnk, Nat.sub_self]
      subst hnk hck
      clear h20
      have hx4 : (m : Int) ≤ (m : Int) + 1 := by omega
      have e1 : IntKind.i64.wrap ((m : Int) + 1) = (m : Int) + 1 := IntWalk.i64_in _ (by omega)
      have e2 : ((m : Int) + 1).toNat = m + 1 := by omega
      go_region_law (first
        | (refine step_append_src _ (by rfl) (.tmp 41) (.tmp 47) 62 (by rfl) wc.heap.size 61 i3 _ 3 32 Tryz.underlying62 hj hj0 hj1 hj2 (by rfl) (by decide) _ 0 0 [] (by rfl) (own_lit0 wc _ _ (by simp) (heap_alloc_new _ _)) (some ⟨gT, 0, none⟩) m (m + 1) (by rfl) (fun h => by cases h) L1 HLen1.out (HSrc1.out _ (by repeat' first | exact Below.refl _ _ | exact HB1.out | refine below_al ?_ _ | refine below_dr ?_)) HOne1.out (by unfold maxLen; omega) (by omega) ((by repeat' first | exact Below.refl _ _ | exact HB1.out | refine below_al ?_ _ | refine below_dr ?_) : Below wc.heap.size wc _).size ?_
           intro g1 cap1 w3 hown1 hgrow1 hat1
           have HB1 : Hid (Below wc.heap.size wc w3) := Below.grown ((by repeat' first | exact Below.refl _ _ | exact HB1.out | refine below_al ?_ _ | refine below_dr ?_) : Below wc.heap.size wc _) hgrow1 ((by repeat' first | exact Below.refl _ _ | exact HB1.out | refine below_al ?_ _ | refine below_dr ?_) : Below wc.heap.size wc _).size (fun k hk => by cases hk; omega)
           have HOwn1 : Hid (w3.ownsRow wc.heap.size 61 3 (.slice (some ⟨g1, 0, none⟩) m cap1) m L1) := (by rw [Nat.zero_add, List.nil_append] at hown1; exact hown1)
           have c0a : w3.cell? ⟨r, 0, none⟩ = _ := (HB1.out.cell (p := ⟨r, 0, none⟩) hrl).trans t0
           clear hown1 hgrow1 hat1)
        | (refine step_append_src _ (by rfl) (.tmp 48) (.tmp 55) 62 (by rfl) wc.heap.size 61 i3 _ 3 32 Tryz.underlying62 hj hj0 hj1 hj2 (by rfl) (by decide) _ m _ L1 (by rfl) HOwn1.out (some ⟨gT, 0, none⟩) 0 0 (by rfl) (fun h => by cases h) [] rfl (fun _ _ j u hu => by simp at hu) (fun u hu => by cases hu) (by unfold maxLen; omega) (by omega) HB1.out.size ?_
           intro g2 cap2 w4 hown2 hgrow2 hat2
           have hb2 : Below wc.heap.size wc w4 := Below.grown HB1.out hgrow2 HB1.out.size (fun k hk => by cases hk; exact (HOwn1.out.lt _ rfl).1)
           have hset := HR1.out.setT hb2 (things_of HXb.out HLb.out hown2)
           have HE := Lib.hid hset
           have c0b : w4.cell? ⟨r, 0, none⟩ = _ := (hb2.cell (p := ⟨r, 0, none⟩) hrl).trans t0
           have f0b : w4.frozen? ⟨r, 0, none⟩ = _ := (hb2.frozen (p := ⟨r, 0, none⟩) hrl).trans f0
           clear hown2 hgrow2 hat2 hb2 hset))
      all_goals
        have HTu := Lib.hid (HTC.out.next HE.out.2)
        go_wp2_with fail
        go_end0
        refine ⟨rfl, ?_⟩
        rw [HFz.out]
        exact ⟨_, _, HE.out.1, HTu.out⟩
    · have e1 : IntKind.i64.wrap ((m : Int) + 1) = (m : Int) + 1 := IntWalk.i64_in _ (by omega)
      have e2 : ((m : Int) + 1).toNat = m + 1 := by omega
      go_region_law (first
        | (refine step_append_src _ (by rfl) (.tmp 41) (.tmp 47) 62 (by rfl) wc.heap.size 61 i3 _ 3 32 Tryz.underlying62 hj hj0 hj1 hj2 (by rfl) (by decide) _ 0 0 [] (by rfl) (own_lit0 wc _ _ (by simp) (heap_alloc_new _ _)) (some ⟨gT, 0, none⟩) m cT (by rfl) (fun h => by cases h) L1 HLen1.out (HSrc1.out _ (by repeat' first | exact Below.refl _ _ | exact HB1.out | refine below_al ?_ _ | refine below_dr ?_)) HOne1.out (by unfold maxLen; omega) (by omega) ((by repeat' first | exact Below.refl _ _ | exact HB1.out | refine below_al ?_ _ | refine below_dr ?_) : Below wc.heap.size wc _).size ?_
           intro g1 cap1 w3 hown1 hgrow1 hat1
           have HB1 : Hid (Below wc.heap.size wc w3) := Below.grown ((by repeat' first | exact Below.refl _ _ | exact HB1.out | refine below_al ?_ _ | refine below_dr ?_) : Below wc.heap.size wc _) hgrow1 ((by repeat' first | exact Below.refl _ _ | exact HB1.out | refine below_al ?_ _ | refine below_dr ?_) : Below wc.heap.size wc _).size (fun k hk => by cases hk; omega)
           have HOwn1 : Hid (w3.ownsRow wc.heap.size 61 3 (.slice (some ⟨g1, 0, none⟩) m cap1) m L1) := (by rw [Nat.zero_add, List.nil_append] at hown1; exact hown1)
           have c0a : w3.cell? ⟨r, 0, none⟩ = _ := (HB1.out.cell (p := ⟨r, 0, none⟩) hrl).trans t0
           clear hown1 hgrow1 hat1)
        | (refine step_append_src _ (by rfl) (.tmp 48) (.tmp 55) 62 (by rfl) wc.heap.size 61 i3 _ 3 32 Tryz.underlying62 hj hj0 hj1 hj2 (by rfl) (by decide) _ m _ L1 (by rfl) HOwn1.out (some ⟨gT, (m + 1) * 3, none⟩) (nT - (m + 1)) (cT - (m + 1)) (by rfl) (fun h => by cases h) L2 HLen2.out (HSrc2.out _ HB1.out) HOne2.out (by unfold maxLen; omega) (by omega) HB1.out.size ?_
           intro g2 cap2 w4 hown2 hgrow2 hat2
           have hb2 : Below wc.heap.size wc w4 := Below.grown HB1.out hgrow2 HB1.out.size (fun k hk => by cases hk; exact (HOwn1.out.lt _ rfl).1)
           have hset := HR1.out.setT hb2 (things_of HXa.out HLa.out hown2)
           have HE := Lib.hid hset
           have c0b : w4.cell? ⟨r, 0, none⟩ = _ := (hb2.cell (p := ⟨r, 0, none⟩) hrl).trans t0
           have f0b : w4.frozen? ⟨r, 0, none⟩ = _ := (hb2.frozen (p := ⟨r, 0, none⟩) hrl).trans f0
           clear hown2 hgrow2 hat2 hb2 hset))
      all_goals
        have HTu := Lib.hid (HTC.out.next HE.out.2)
        go_wp2_with fail
        go_end0
        refine ⟨rfl, ?_⟩
        rw [HFz.out]
        exact ⟨_, _, HE.out.1, HTu.out⟩
end
end Go.Proofs.YtcgpmnlondnbhaaGreatDoor
