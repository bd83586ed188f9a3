/-
  Walks of layer 12: patched, View.
-/
import Derived.Test.YtghafpdmcbockaaGreatDoorDeps
import Derived.Test.YtghafpdmcbockaaGreatDoorInodeA
import Derived.Test.YtghafpdmcbockaaGreatDoorIntRows
namespace Go.Proofs.YtghafpdmcbockaaGreatDoor
open Go Go.RowKit Txt Sp

/-- The patch of the change at a place. -/
def Sp.Deps.patchAt (d : Sp.Deps) (j : Int) : Int × ByteArray := match d.l[j.toNat]? with
  | some c => (c.off, c.bytes)
  | none => (0, ⟨#[]⟩)
section
set_option maxHeartbeats 2000000
set_option maxRecDepth 20000 in
theorem depsPatched_any {w : World} {base B : Nat} {d : Sp.Deps} {D : Nat → Prop} (h : DepsAt w base B d D) (hok : d.Ok) (s : ByteArray) (hs : s.size = 64) (v : Value) (js : List Int) (hv : Ints w v js) (hj : ∀ j ∈ js, 0 ≤ j ∧ j < d.l.length) (hl : js.length ≤ 1024) :
    Calls Tryz.prog 181 #[pt B, .string s, v] w fun e w' => e = .returned (.tuple #[.string (ofL (patchedL s.data.toList (js.map d.patchAt))), .int .i64 0]) ∧ Below w.heap.size w w' := by
  obtain ⟨ad, n, cap, c0, -, hBl, HN, hn, HF⟩ := h.open
  have hnl := HN.out
  obtain ⟨jad, m, jcap, rfl, HM, hm, HJ⟩ := RowAt.facts (f := fun n : Int => [Value.int .i64 n]) hv
  have hml := HM.out
  have hpo : patchesOk (js.map d.patchAt) := by
    intro p hp
    obtain ⟨j, hjm, rfl⟩ := List.mem_map.1 hp
    have h1 := hj j hjm
    unfold Sp.Deps.patchAt
    rw [List.getElem?_eq_getElem (by omega)]
    exact hok.fit _ (List.getElem_mem _)
  have hpt := fun (W : World) (v : Value) (hv : Pats W v (js.map d.patchAt)) => fpatched_any W s v _ hv hs (by rw [List.length_map]; exact hl) hpo
  have HC0 : Hid (∀ W, Below w.heap.size w W → W.cell? ⟨B, 0, none⟩ = some (.slice ad n cap)) := fun W hW => (hW.cell (p := ⟨B, 0, none⟩) hBl).trans c0
  have HLe : Hid (js.length ≤ 1024) := hl
  obtain ⟨R, hR⟩ : ∃ R, ofL (patchedL s.data.toList (js.map d.patchAt)) = R := ⟨_, rfl⟩
  rw [hR] at hpt ⊢
  have HJJ := Lib.hid hj
  have hps : ∀ k j, js[k]? = some j → (js.take (k + 1)).map d.patchAt = (js.take k).map d.patchAt ++ [d.patchAt j] := fun k j h => by rw [take_step h, List.map_append]; rfl
  have hend : (js.take m).map d.patchAt = js.map d.patchAt := by rw [List.take_of_length_le (by omega)]
  obtain ⟨PL, hPL⟩ : ∃ PL : Nat → List (Int × ByteArray), (fun k => (js.take k).map d.patchAt) = PL := ⟨_, rfl⟩
  have hPe : ∀ k, (js.take k).map d.patchAt = PL k := fun k => by rw [← hPL]
  have hpl : ∀ k, (PL k).length ≤ 1024 := fun k => by rw [← hPe, List.length_map, List.length_take]; omega
  have hP0 : PL 0 = [] := by rw [← hPe]; rfl
  simp only [hPe] at hps hend
  have HP0 := Lib.hid hP0
  unfold pt
  have HPT := Lib.hid hpt
  have HPS := Lib.hid hps
  have HEND := Lib.hid hend
  have HPL := Lib.hid hpl
  clear hpt hps hend hpl
  clear hPL hPe hP0
  clear h hok hv hj hl hpo hR c0 hnl hml
  go_enter Tryz.func181, Tryz.ntmps181
  go_wp2_with fail
  go_loopw [8, 13] (fun out q wr => ∃ k : Nat, k ≤ m ∧ q = .int .i64 (k : Int) ∧ Hid (OwnR 172 2 patC w.heap.size wr out (PL k)) ∧ Hid (Below w.heap.size w wr)) (fun _ q _ => m - (intOf q).toNat)
  case atStart => exact ⟨0, Nat.zero_le _, rfl, by rw [HP0.out]; exact OwnR.void _ _, Below.refl _ _⟩
  case round =>
    obtain ⟨k, hk, rfl, HO, HB⟩ := hrel
    by_cases hlt : k < m
    · obtain ⟨jb, jo, j, rfl, hjb, hjx, hjc⟩ := HJ.out k hlt
      have hjb2 := HJJ.out j (List.mem_of_getElem? hjx)
      obtain ⟨q, rfl⟩ : ∃ q : Nat, j = (q : Int) := ⟨j.toNat, by omega⟩
      have hqn : q < n := by have := HN.out; omega
      obtain ⟨b, o, c, ua, un, uc, rfl, hb, hx, hc⟩ := HF.out q hqn
      have hst := HPS.out k _ hjx
      have hpa : d.patchAt (q : Int) = (c.off, c.bytes) := by unfold Sp.Deps.patchAt; rw [Int.toNat_natCast, hx]
      rw [hpa] at hst
      obtain ⟨cn, ca, co, cb, ch, cs⟩ := c
      have c0 := HC0.out wr HB.out
      have j0 := (HB.out.cell (p := ⟨jb, jo + k * 1 + 0, none⟩) hjb).trans (hjc 0 _ rfl)
      simp only [Nat.add_zero, Nat.mul_one] at j0
      have c2 := (HB.out.cell (p := ⟨b, o + q * 6 + 2, none⟩) hb).trans (hc 2 _ rfl)
      have c3 := (HB.out.cell (p := ⟨b, o + q * 6 + 3, none⟩) hb).trans (hc 3 _ rfl)
      have hll := HPL.out k
      dsimp only at hst
      have HSt := Lib.hid hst
      clear hst hpa hx hc hb hjx hjc hjb hjb2
      obtain ⟨ia5, ib5, ic5, id5, ie5⟩ := info_parts infoPatch
      have hrow5 := HO.out
      unfold OwnR at hrow5
      have HRow5 := Lib.hid hrow5
      clear hrow5
      have HIb5 := Lib.hid ib5
      have HIc5 := Lib.hid ic5
      have HId5 := Lib.hid id5
      have HIe5 := Lib.hid ie5
      clear ib5 ic5 id5 ie5
      go_wp2_with (at_builtin; refine wpList_append_lies _ rfl _ _ _ rfl w.heap.size 172 ia5 _ 2 24 Tryz.underlying179 HIb5.out HIc5.out HId5.out HIe5.out rfl (by decide) _ _ _ rfl (HRow5.out.alloc _) ⟨wr.heap.size, 0, none⟩ 1 1 [.int .i64 co, .string cb] rfl rfl (World.news_of_block (cs := #[.int .i64 co, .string cb]) (t := 172) (fr := (0, 0)) (heapNew wr _)) (by simp [Value.oneCell']) (by omega) ?c1 ?c2 ?c3 (wr.heap.size + 1) (by simp) ?_)
      case c1 => unfold maxLen; omega
      case c2 => omega
      case c3 => have := HB.out.size; simp; omega
      intro g5 cap5 w5 hown5 hgrow5 hat5 hlt5
      have HO5 := Lib.hid (OwnR.snoc (f := patC) (x := (co,cb)) hown5 rfl rfl)
      have HB5 : Hid (Below w.heap.size _ w5) := Below.grown (bl1 HB.out _) hgrow5 (bl1 HB.out _).size (fun q hq => (HRow5.out.lt q hq).1)
      clear hown5 hgrow5 hat5 hlt5 HRow5
      go_wp2
      go_roundw
      case rel => exact ⟨k + 1, by omega, by go_num, by rw [HSt.out]; exact HO5, HB5⟩
      case measure => simp [intOf]; omega
    · obtain rfl : k = m := by omega
      have ho := HO.out
      rw [HEND.out] at ho
      have HP := Lib.hid (HPT.out wr _ (OwnR.row (f := patC) (size := 2) (fun _ _ => rfl) ho))
      clear ho
      go_wp2_with fail
      refine HP.out.mono ?_
      rintro e w2 ⟨rfl, hb2⟩
      have HB2 := Lib.hid (blN HB.out hb2)
      clear hb2
      go_wp2
      go_ret2
      exact ⟨rfl, HB2.out⟩
/-- All places of a sector's changes. -/
def Sp.Deps.all (d : Sp.Deps) (i : Int) (k : Nat) : List Int := ((List.range k).filter (fun j => decide (∃ c, d.l[j]? = some c ∧ c.at_ = i))).map (fun j : Nat => (j : Int))
theorem all_sorted (d : Sp.Deps) (i : Int) (k : Nat) : (d.all i k).Pairwise (fun a b => decide (a ≤ b) = true) := by
  unfold Sp.Deps.all
  rw [List.pairwise_map]
  refine (List.pairwise_lt_range.filter _).imp ?_
  intro a b h
  exact decide_eq_true (by omega)
theorem places_perm {d : Sp.Deps} (hok : d.Ok) (i : Int) (k : Nat) : (d.places i 1 k ++ d.places i 2 k).Perm (d.all i k) := by
  unfold Sp.Deps.places Sp.Deps.all
  rw [← List.map_append]
  refine List.Perm.map _ ?_
  have h := List.filter_append_perm (fun j => decide (∃ c, d.l[j]? = some c ∧ c.at_ = i ∧ c.state = 1)) ((List.range k).filter (fun j => decide (∃ c, d.l[j]? = some c ∧ c.at_ = i)))
  rw [List.filter_filter, List.filter_filter] at h
  have e1 : (List.range k).filter (fun j => decide (∃ c, d.l[j]? = some c ∧ c.at_ = i ∧ c.state = 1) && decide (∃ c, d.l[j]? = some c ∧ c.at_ = i)) = (List.range k).filter (fun j => decide (∃ c, d.l[j]? = some c ∧ c.at_ = i ∧ c.state = 1)) := by
    refine List.filter_congr fun j _ => ?_
    rw [← Bool.decide_and]
    refine decide_eq_decide.2 ⟨fun h => h.1, fun h => ⟨h, ?_⟩⟩
    obtain ⟨c, h1, h2, _⟩ := h
    exact ⟨c, h1, h2⟩
  have e2 : (List.range k).filter (fun j => !decide (∃ c, d.l[j]? = some c ∧ c.at_ = i ∧ c.state = 1) && decide (∃ c, d.l[j]? = some c ∧ c.at_ = i)) = (List.range k).filter (fun j => decide (∃ c, d.l[j]? = some c ∧ c.at_ = i ∧ c.state = 2)) := by
    refine List.filter_congr fun j _ => ?_
    rw [← decide_not, ← Bool.decide_and]
    refine decide_eq_decide.2 ⟨?_, ?_⟩
    · rintro ⟨h1, c, h2, h3⟩
      refine ⟨c, h2, h3, ?_⟩
      rcases hok.st c (List.mem_of_getElem? h2) with h | h
      · exact absurd ⟨c, h2, h3, h⟩ h1
      · exact h
    · rintro ⟨c, h1, h2, h3⟩
      refine ⟨?_, c, h1, h2⟩
      rintro ⟨c', h1', _, h3'⟩
      rw [h1] at h1'
      cases h1'
      omega
  rw [e1, e2] at h
  exact h
theorem places_sorted {d : Sp.Deps} (hok : d.Ok) (i : Int) (k : Nat) : (d.places i 1 k ++ d.places i 2 k).mergeSort (fun x y => decide (x ≤ y)) = d.all i k := by
  have tr : ∀ a b c : Int, decide (a ≤ b) = true → decide (b ≤ c) = true → decide (a ≤ c) = true := fun a b c h1 h2 => by simp only [decide_eq_true_eq] at *; omega
  have to' : ∀ a b : Int, (decide (a ≤ b) || decide (b ≤ a)) = true := fun a b => by simp only [Bool.or_eq_true, decide_eq_true_eq]; omega
  refine List.Perm.eq_of_pairwise (le := fun a b : Int => decide (a ≤ b) = true) (fun a b _ _ h1 h2 => ?_) (List.pairwise_mergeSort tr to' _) (all_sorted d i k) ((List.mergeSort_perm _ _).trans (places_perm hok i k))
  simp only [decide_eq_true_eq] at h1 h2
  omega
theorem all_patches (d : Sp.Deps) (i : Int) : ∀ k, k ≤ d.l.length → (d.all i k).map d.patchAt = ((d.l.take k).filter (fun c => decide (c.at_ = i))).map (fun c => (c.off, c.bytes))
  | 0, _ => rfl
  | k + 1, hk => by
    have ih := all_patches d i k (by omega)
    have hx : d.l[k]? = some d.l[k] := List.getElem?_eq_getElem (by omega)
    rw [take_step hx, List.filter_append, List.map_append, ← ih]
    unfold Sp.Deps.all
    rw [List.range_succ, List.filter_append, List.map_append, List.map_append]
    congr 1
    by_cases h : d.l[k].at_ = i
    · rw [List.filter_cons, if_pos (by simpa [hx] using h), List.filter_cons, if_pos (by simpa using h)]
      simp only [List.filter_nil, List.map_cons, List.map_nil]
      unfold Sp.Deps.patchAt
      rw [Int.toNat_natCast, hx]
    · rw [List.filter_cons, if_neg (by simpa [hx] using h), List.filter_cons, if_neg (by simpa using h)]
      rfl
theorem view_places {d : Sp.Deps} (hok : d.Ok) (i : Int) : ((d.places i 1 d.l.length ++ d.places i 2 d.l.length).mergeSort (fun x y => decide (x ≤ y))).map d.patchAt = d.patches i := by
  rw [places_sorted hok, all_patches d i _ (Nat.le_refl _), List.take_length]
  rfl
section
set_option maxHeartbeats 2000000
set_option maxRecDepth 20000 in
theorem depsView_any {w : World} {base B : Nat} {d : Sp.Deps} {D : Nat → Prop} (h : DepsAt w base B d D) (hok : d.Ok) (i : Int) (s : ByteArray) (hs : s.size = 64) :
    Calls Tryz.prog 123 #[pt B, .int .i64 i, .string s] w fun e w' => e = .returned (.tuple #[.string (d.view i s), .int .i64 0]) ∧ Below w.heap.size w w' := by
  have hv : d.view i s = ofL (patchedL s.data.toList (d.patches i)) := if_pos hs
  have ho1 := fun (W : World) (hW : Below w.heap.size w W) => depsOf_any (h.below hW) i 1 hok.few
  have ho2 := fun (W : World) (hW : Below w.heap.size w W) => depsOf_any (h.below hW) i 2 hok.few
  obtain ⟨l1, hl1⟩ : ∃ l, d.places i 1 d.l.length = l := ⟨_, rfl⟩
  obtain ⟨l2, hl2⟩ : ∃ l, d.places i 2 d.l.length = l := ⟨_, rfl⟩
  have hb1 : l1.length ≤ 1024 := by rw [← hl1]; exact Nat.le_trans (places_len d i 1 _) hok.few
  have hb2 : l2.length ≤ 1024 := by rw [← hl2]; exact Nat.le_trans (places_len d i 2 _) hok.few
  have hvp := view_places hok i
  rw [hl1, hl2] at hvp
  have hjs : ∀ j ∈ (l1 ++ l2).mergeSort (fun x y => decide (x ≤ y)), 0 ≤ j ∧ j < d.l.length := by
    intro j hj
    rw [← hl1, ← hl2, places_sorted hok] at hj
    unfold Sp.Deps.all at hj
    obtain ⟨q, hq, rfl⟩ := List.mem_map.1 hj
    have := List.mem_range.1 (List.mem_filter.1 hq).1
    omega
  rw [hl1] at ho1
  rw [hl2] at ho2
  obtain ⟨M, hM⟩ : ∃ M, (l1 ++ l2).mergeSort (fun x y => decide (x ≤ y)) = M := ⟨_, rfl⟩
  have hML : M.length ≤ 2048 := by rw [← hM, List.length_mergeSort, List.length_append]; omega
  have hMf : M.length ≤ 1024 := by
    have := congrArg List.length hvp
    rw [List.length_map, hM] at this
    rw [this]
    exact Deps.patches_few hok i
  rw [hM] at hvp hjs
  have hpa := fun (W : World) (v : Value) (hW : Below w.heap.size w W) (hv : Ints W v M) => depsPatched_any (h.below hW) hok s hs v M hv hjs hMf
  rw [hvp] at hpa
  rw [hv]
  obtain ⟨ia, ib, ic, id, ie⟩ := info_parts infoInt
  obtain ⟨R, hR⟩ : ∃ R, ofL (patchedL s.data.toList (d.patches i)) = R := ⟨_, rfl⟩
  rw [hR] at hpa ⊢
  have HM := Lib.hid hM
  unfold pt at ho1 ho2 hpa ⊢
  have HO1 := Lib.hid ho1
  have HO2 := Lib.hid ho2
  have HPA := Lib.hid hpa
  clear ho1 ho2 hpa
  clear h hok hv hl1 hl2 hvp hjs hM hR hML hMf hs
  go_enter Tryz.func123, Tryz.ntmps123
  go_wp2_with fail
  go_at_call_of 130 (Value.int .i64 1)
  refine (HO1.out _ (Below.refl _ _)).mono ?_
  rintro e w1 ⟨v1, rfl, hv1, hw1⟩
  have HV1 := Lib.hid hv1
  have HW1 := Lib.hid hw1
  clear hv1 hw1
  go_wp2_with fail
  refine (HO2.out _ HW1.out).mono ?_
  rintro e w2 ⟨v2, rfl, hv2, hw2⟩
  have HV2 := Lib.hid hv2
  have HV1b := Lib.hid (OwnR.below HV1.out hw2)
  have HW2 := Lib.hid (blN HW1.out hw2)
  clear hv2 hw2 HO1 HO2
  go_wp2_with (at_builtin; refine wpList_append_rows _ rfl (.tmp 11) (.tmp 14) _ rfl w.heap.size w1.heap.size 3 ia _ 1 8 Tryz.underlying30 ib ic id ie rfl (by decide) v1 v2 l1.length l2.length (l1.flatMap intC) (l2.flatMap intC) rfl HV1b.out rfl HV2.out ?c1 ?c2 ?c3 ?c4 ?_)
  case c1 => rw [intC_map]; intro u hu; obtain ⟨s, _, rfl⟩ := List.mem_map.1 hu; rfl
  case c2 => unfold maxLen; omega
  case c3 => omega
  case c4 => exact HW2.out.size
  intro v3 w3 hown3 hg3
  have HO3 : Hid (OwnR 3 1 intC w.heap.size w3 v3 (l1 ++ l2)) := by
    show OwnR _ _ _ _ _ _ _
    unfold OwnR
    rw [List.length_append, List.flatMap_append]
    exact hown3
  have HW3 : Hid (Below w.heap.size w w3) := Below.grown HW2.out hg3 HW2.out.size (fun q hq => (OwnR.lt HV1b.out q hq).1)
  clear hown3 hg3 HV1 HV2 HV1b
  have HS := Lib.hid (sortInts_any HO3.out (by rw [List.length_append]; omega))
  go_wp2_with fail
  refine HS.out.mono ?_
  rintro e w4 ⟨rfl, hv4, hT4⟩
  rw [HM.out] at hv4
  have HW4 : Hid (Below w.heap.size w w4) := HW3.out.trans (hT4.below (fun k hk => (OwnR.lt HO3.out k hk).1) HW3.out.size)
  have HP := Lib.hid (HPA.out w4 v3 HW4.out (OwnR.row (f := intC) (size := 1) (fun _ _ => rfl) hv4))
  clear hv4 hT4 HS
  go_wp2_with fail
  refine HP.out.mono ?_
  rintro e w5 ⟨rfl, hw5⟩
  have HW5 := Lib.hid (blN HW4.out hw5)
  clear hw5
  go_wp2
  go_ret2
  exact ⟨rfl, HW5.out⟩
end
end
end Go.Proofs.YtghafpdmcbockaaGreatDoor
