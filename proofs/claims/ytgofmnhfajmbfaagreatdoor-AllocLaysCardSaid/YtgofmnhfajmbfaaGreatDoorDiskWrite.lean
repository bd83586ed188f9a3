/-
  Walks of layers 4 and 11: Passes; writes that wait: Issue, Apply, Drop.
-/
import Derived.Test.YtgofmnhfajmbfaaGreatDoorSidA
import Derived.Test.YtgofmnhfajmbfaaGreatDoorSuperA
import Derived.Test.YtgofmnhfajmbfaaGreatDoorHeldLast
import Derived.Test.YtgofmnhfajmbfaaGreatDoorRefNode
import Derived.Test.YtgofmnhfajmbfaaGreatDoorSpJ
namespace Go.Proofs.YtgofmnhfajmbfaaGreatDoor
open Go Go.RowKit Txt Sp

section
set_option maxHeartbeats 4000000
theorem superPasses_any (w : World) : Calls Tryz.prog 237 #[.string (wallB 0 0), .int .i64 0, .int .i64 0] w fun e w' => e = .returned (.tuple #[.bool true, .int .i64 0]) ∧ Below w.heap.size w w' := by
  have hep := sepochs_any w (wallB 0 0)
  unfold EpochsPost at hep
  rw [if_pos (show isFence (wallB 0 0) by decide +kernel), if_pos (show isFence (wallB 0 0) by decide +kernel), if_pos (show isFence (wallB 0 0) by decide +kernel), show numAt (wallB 0 0) 4 4 = 0 by decide +kernel, show numAt (wallB 0 0) 8 4 = 0 by decide +kernel] at hep
  obtain ⟨s, hs⟩ : ∃ s, wallB 0 0 = s := ⟨_, rfl⟩
  rw [hs] at hep ⊢
  have HEP := Lib.hid hep
  clear hep
  clear hs
  go_enter Tryz.func237, Tryz.ntmps237
  go_wp2_with fail
  refine HEP.out.mono ?_
  rintro e w1 ⟨rfl, hb1⟩
  have HB1 := Lib.hid hb1
  clear hb1
  go_wp2
  go_ret2
  exact ⟨rfl, bl1 HB1.out _⟩
set_option maxRecDepth 20000 in
theorem diskPasses_any {w : World} {base B : Nat} {d : Sp.Disk} {D : Nat → Prop} (h : DiskAt w base B d D) (hf : d.l[1]? = some (wallB 0 0)) :
    Calls Tryz.prog 170 #[pt B, .int .i64 0, .int .i64 0] w fun e w' => e = .returned (.bool true) ∧ Below w.heap.size w w' := by
  obtain ⟨ad, n, cap, c0, HN, hn, HF⟩ := h.open
  have hl1 : 1 < n := by rw [HN.out]; exact (List.getElem?_eq_some_iff.1 hf).1
  obtain ⟨b, o, s, rfl, hb, hx, hc⟩ := HF.out 1 hl1
  rw [hf] at hx
  have hs : s = wallB 0 0 := (Option.some.inj hx).symm
  have hp := fun W : World => superPasses_any W
  rw [← hs] at hp
  have i1 : (1 : Int) < (n : Int) := by omega
  unfold pt
  have HP := Lib.hid hp
  clear hp
  clear hf hx hs h hb
  go_enter Tryz.func170, Tryz.ntmps170
  go_wp2_with fail
  refine (HP.out _).mono ?_
  rintro e w1 ⟨rfl, hb1⟩
  have HB1 := Lib.hid hb1
  clear hb1
  go_wp2
  go_ret
  exact ⟨rfl, HB1.out⟩
/-- Places of a disk alone. -/
def DskK (w : World) (K : Nat → Prop) : Prop := ∀ j, K j → (∃ cs fr e, w.heap[j]? = some (.cells cs e fr) ∧ (e = 198 ∨ e = 9)) ∨ ∃ es cl, w.heap[j]? = some (.map es cl)
def DskTurn (w : World) (D : Nat → Prop) (w' : World) : Prop := ∃ K, (∀ j, K j → D j) ∧ DskK w K ∧ Turn K w w'
theorem DskTurn.of_below {w w' : World} {D : Nat → Prop} (h : Below w.heap.size w w') : DskTurn w D w' := ⟨fun _ => False, fun _ h => h.elim, fun _ h => h.elim, Turn.of_below h⟩
theorem DskTurn.trans {a b c : World} {D : Nat → Prop} (hD : ∀ j, D j → j < a.heap.size) (h : DskTurn a D b) (k : DskTurn b D c) : DskTurn a D c := by
  obtain ⟨K1, d1, c1, t1⟩ := h
  obtain ⟨K2, d2, c2, t2⟩ := k
  refine ⟨fun j => K1 j ∨ K2 j, fun j hj => hj.elim (d1 j) (d2 j), fun j hj => ?_, t1.trans t2 (fun _ _ h => Or.inl h) (fun _ _ h => Or.inr h)⟩
  by_cases h1 : K1 j
  · exact c1 j h1
  · have h2 := hj.resolve_left h1
    have he := t1.block j (hD j (d2 j h2)) h1
    rcases c2 j h2 with ⟨cs, fr, e, hc, ht⟩ | ⟨es, cl, hc⟩
    · exact Or.inl ⟨cs, fr, e, he.symm.trans hc, ht⟩
    · exact Or.inr ⟨es, cl, he.symm.trans hc⟩
theorem DskTurn.size {w w' : World} {D : Nat → Prop} (h : DskTurn w D w') : w.heap.size ≤ w'.heap.size := by
  obtain ⟨K, _, _, hT⟩ := h
  exact hT.size
/-- The disk's number is stored. -/
theorem DiskAt.lastSet {w : World} {base B : Nat} {d : Sp.Disk} {D : Nat → Prop} (h : DiskAt w base B d D) (n : Nat) : DiskAt (w.setCell ⟨B, 2, none⟩ (.int .i64 (n : Int))) base B ⟨d.l, d.waits, n⟩ D ∧ DskTurn w D (w.setCell ⟨B, 2, none⟩ (.int .i64 (n : Int))) := by
  obtain ⟨⟨v, wm, h1, h2, ⟨o, h3, h3'⟩, h4, h5, h6⟩, ho, hl⟩ := h
  have hT : Turn (fun j => j = B) w (w.setCell ⟨B, 2, none⟩ (.int .i64 (n : Int))) := setCell_turn
  refine ⟨⟨⟨v, wm, setHeap_at (k := 2) h1 _, h2.turn hT (fun k hk e => ?_), ⟨o, hT.heap h3 (fun e => ?_), h3'⟩, h4, h5, h6⟩, ho, hl⟩, fun j => j = B, fun j e => e ▸ ho, fun j e => by
    obtain rfl : j = B := e
    exact Or.inl ⟨_, _, _, h1, Or.inl rfl⟩, hT⟩
  · obtain ⟨_, ⟨rfl, _⟩ | ⟨g, cap, cur, rfl, hg, hh, _⟩⟩ := h2
    · cases hk
    · cases hk
      have e : g = B := e
      rw [e, h1] at hh
      unfold diskO at hh
      cases hh
  · have e : wm = B := e
    obtain ⟨es, cl, rfl, _⟩ := h3'
    rw [e, h1] at h3
    unfold diskO at h3
    cases h3
/-- What waits is another map. -/
theorem DiskAt.waitsSet {w : World} {base B : Nat} {d : Sp.Disk} {D : Nat → Prop} (h : DiskAt w base B d D) {l : List (Int × Wr)} : ∃ wm, w.cell? ⟨B, 1, none⟩ = some (.map (some wm)) ∧ IM.MapAt wrV w wm d.waits ∧ D wm ∧ B ≠ wm ∧
    ∀ o', IM.IsMap wrV o' l → DiskAt (ChangeMaps.setBlock w wm o') base B ⟨d.l, l, d.last⟩ D ∧ DskTurn w D (ChangeMaps.setBlock w wm o') := by
  obtain ⟨⟨v, wm, h1, h2, ⟨o, h3, h3'⟩, h4, h5, h6⟩, ho, hl⟩ := h
  have hne : B ≠ wm := fun e => by
    obtain ⟨es, cl, rfl, _⟩ := h3'
    rw [← e, h1] at h3
    unfold diskO at h3
    cases h3
  refine ⟨wm, cellOf (k := 1) h1 rfl, ⟨o, h3, h3'⟩, h5, hne, fun o' ho' => ?_⟩
  have hT : Turn (fun j => j = wm) w (ChangeMaps.setBlock w wm o') := block_turn
  have hlt : wm < w.heap.size := (Array.getElem?_eq_some_iff.1 h3).1
  refine ⟨⟨⟨v, wm, hT.heap h1 hne, h2.turn hT (fun k hk e => ?_), ⟨o', IM.heap_setBlock_at hlt, ho'⟩, h4, h5, h6⟩, ho, hl⟩, fun j => j = wm, fun j e => e ▸ h5, fun j e => ?_, hT⟩
  · obtain ⟨_, ⟨rfl, _⟩ | ⟨g, cap, cur, rfl, hg, hh, _⟩⟩ := h2
    · cases hk
    · cases hk
      have e : g = wm := e
      obtain ⟨es, cl, rfl, _⟩ := h3'
      rw [e, h3] at hh
      cases hh
  · obtain rfl : j = wm := e
    obtain ⟨es, cl, rfl, _⟩ := h3'
    exact Or.inr ⟨es, cl, h3⟩
theorem issuer_any (w : World) : Calls Tryz.prog 274 #[.int .i64 0, .int .i64 0] w fun e w' => e = .returned (.int .i64 0) ∧ w' = w := by
  go_enter Tryz.func274, Tryz.ntmps274
  go_wp2
  go_ret
  exact ⟨rfl, rfl⟩
def toldW (d : Sp.Disk) (i : Int) (s : ByteArray) : Sp.Disk := ⟨d.l, d.waits ++ [(((d.last + 1 : Nat) : Int), ⟨0, 0, i, s⟩)], d.last + 1⟩
set_option maxRecDepth 20000 in
theorem diskIssue_any {w : World} {base B : Nat} {d : Sp.Disk} {D : Nat → Prop} (h : DiskAt w base B d D) (hD : ∀ j, D j → j < w.heap.size) (hf : d.l[1]? = some (wallB 0 0)) (hfew : d.waits.length < 1024) (hlast : d.last < 1000000000) (hkeys : ∀ x ∈ d.waits, x.1 ≤ (d.last : Int)) (i : Int) (hi : d.has i) (s : ByteArray) (hs : s.size = 64) :
    Calls Tryz.prog 235 #[pt B, .int .i64 0, .int .i64 0, .int .i64 i, .string s] w fun e w' => e = .returned (.tuple #[.int .i64 ((d.last + 1 : Nat) : Int), .int .i64 0]) ∧ DiskAt w' base B (toldW d i s) D ∧ DskTurn w D w' := by
  have his := fun W : World => issuer_any W
  have hwr := diskWrong_any h i s
  have hc : d.layC i s = 0 := by unfold Sp.Disk.layC; rw [if_pos hi, if_pos hs]
  rw [hc] at hwr
  have hpa := diskPasses_any h hf
  obtain ⟨wm, cw, hm, hDw, hBw, -⟩ := h.waitsSet (l := d.waits)
  have hln := fun ty => IM.run_len (P := Tryz.prog) (ty := ty) (T := 196) (by kernel_rfl) hm
  have c2 : w.cell? ⟨B, 2, none⟩ = some (.int .i64 (d.last : Int)) := by
    obtain ⟨⟨v, wm', h1, _⟩, _, _⟩ := h
    exact cellOf (k := 2) h1 rfl
  have hBl : B < w.heap.size := by
    obtain ⟨⟨v, wm', h1, _⟩, _, _⟩ := h
    exact (Array.getElem?_eq_some_iff.1 h1).1
  have hfz : ∀ W, Below w.heap.size w W → W.frozen? ⟨B, 2, none⟩ = false := fun W hW => by
    obtain ⟨⟨v, wm', h1, _⟩, _, _⟩ := h
    exact freeOf (heapOld hW h1)
  obtain ⟨ln, hlnn⟩ : ∃ n, d.waits.length = n := ⟨_, rfl⟩
  rw [hlnn] at hln hfew
  have q1 : decide ((ln : Int) ≥ 1024) = false := decide_eq_false (by omega)
  have e1 : IntKind.i64.wrap ((d.last : Int) + 1) = ((d.last + 1 : Nat) : Int) := by rw [IntWalk.i64_in _ (by omega)]; omega
  have hst : ∀ W W4, Below w.heap.size w W → Below (W.setCell ⟨B, 2, none⟩ (.int .i64 ((d.last + 1 : Nat) : Int))).heap.size (W.setCell ⟨B, 2, none⟩ (.int .i64 ((d.last + 1 : Nat) : Int))) W4 → ∃ wm2, W4.cell? ⟨B, 1, none⟩ = some (.map (some wm2)) ∧ W4.cell? ⟨B, 2, none⟩ = some (.int .i64 ((d.last + 1 : Nat) : Int)) ∧
      ∃ o', (Instr.mapUpdate 196 (.map (some wm2)) (.int .i64 ((d.last + 1 : Nat) : Int)) (.agg #[.int .i64 0, .int .i64 0, .int .i64 i, .string s])).run Tryz.prog W4 = .ok () (ChangeMaps.setBlock W4 wm2 o') ∧
        (ChangeMaps.setBlock W4 wm2 o').cell? ⟨B, 2, none⟩ = some (.int .i64 ((d.last + 1 : Nat) : Int)) ∧ DiskAt (ChangeMaps.setBlock W4 wm2 o') base B (toldW d i s) D ∧ DskTurn w D (ChangeMaps.setBlock W4 wm2 o') := fun W W4 hW hW4 => by
    obtain ⟨hd0, ht1⟩ := (h.below hW).lastSet (d.last + 1)
    have hd1 := hd0.below hW4
    obtain ⟨wm2, k1, m2, _, hne2, hset⟩ := hd1.waitsSet (l := d.waits ++ [(((d.last + 1 : Nat) : Int), ⟨0, 0, i, s⟩)])
    obtain ⟨o', hup, ho'⟩ := IM.run_update (P := Tryz.prog) (T := 196) Tryz.underlying196 Tryz.underlying3 m2 ((d.last + 1 : Nat) : Int) (⟨0, 0, i, s⟩ : Wr)
    have hno : IM.getM d.waits ((d.last + 1 : Nat) : Int) = none := by
      unfold IM.getM
      rw [List.find?_eq_none.2 (fun x hx => by
        rw [decide_eq_true_iff]
        have := hkeys x hx
        omega)]
      rfl
    have hsm : IM.setM d.waits ((d.last + 1 : Nat) : Int) (⟨0, 0, i, s⟩ : Wr) = d.waits ++ [(((d.last + 1 : Nat) : Int), ⟨0, 0, i, s⟩)] := by
      unfold IM.setM
      rw [hno]
      rfl
    rw [hsm] at ho'
    obtain ⟨r1, r2⟩ := hset o' ho'
    have hB2 : ∃ v wm', W4.heap[B]? = some (diskO v wm' (d.last + 1)) := by
      obtain ⟨⟨v, wm', h1, _⟩, _, _⟩ := hd1
      exact ⟨v, wm', h1⟩
    obtain ⟨v2, wm', h12⟩ := hB2
    have hk2 : W4.cell? ⟨B, 2, none⟩ = some (.int .i64 ((d.last + 1 : Nat) : Int)) := cellOf (k := 2) h12 rfl
    refine ⟨wm2, k1, hk2, o', hup, cellOf (k := 2) ((block_turn (w := W4) (m := wm2) (o := o')).heap h12 hne2) rfl, r1, DskTurn.trans hD (DskTurn.of_below hW) (DskTurn.trans (fun j hj => Nat.lt_of_lt_of_le (hD j hj) hW.size) ht1 (DskTurn.trans (fun j hj => ?_) (DskTurn.of_below hW4) r2))⟩
    have := hD j hj
    have := hW.size
    have := ht1.size
    omega
  obtain ⟨NN, hNN⟩ : ∃ z : Int, ((d.last + 1 : Nat) : Int) = z := ⟨_, rfl⟩
  rw [hNN] at e1 hst ⊢
  obtain ⟨d', hd'⟩ : ∃ d', toldW d i s = d' := ⟨_, rfl⟩
  rw [hd'] at hst ⊢
  obtain ⟨dl, hdl⟩ : ∃ z : Int, (d.last : Int) = z := ⟨_, rfl⟩
  rw [hdl] at e1 c2
  unfold pt at hwr hpa ⊢
  have HIS := Lib.hid his
  have HWR := Lib.hid hwr
  have HPA := Lib.hid hpa
  have HST := Lib.hid hst
  have HFZ := Lib.hid hfz
  clear his hwr hpa hst hfz
  clear h hD hf hkeys hi hs hc hm hDw hBw hlnn hNN hd' hdl hlast
  go_enter Tryz.func235, Tryz.ntmps235
  go_wp2_with fail
  refine (HIS.out _).mono ?_
  rintro e w1 ⟨rfl, hw1⟩
  subst hw1
  go_wp2_with fail
  refine HWR.out.mono ?_
  rintro e w2 ⟨rfl, hw2⟩
  subst hw2
  have hln1 := hln
  go_wp2_with fail
  refine HPA.out.mono ?_
  rintro e w3 ⟨rfl, hb3⟩
  have x2 := (hb3.cell (p := ⟨B, 2, none⟩) hBl).trans c2
  have f2 := HFZ.out w3 hb3
  obtain ⟨W4, hW4⟩ : ∃ W, w3.setCell ⟨B, 2, none⟩ (.int .i64 NN) = W := ⟨_, rfl⟩
  have hst3 := HST.out w3 W4.drew hb3
  rw [hW4] at hst3
  obtain ⟨wm2, y1, y2, o', hup, y3, hda, hdt⟩ := hst3 (blD (Below.refl _ _))
  have HE : Hid (DiskAt (ChangeMaps.setBlock W4.drew wm2 o') base B d' D ∧ DskTurn w2 D (ChangeMaps.setBlock W4.drew wm2 o')) := ⟨hda, hdt⟩
  clear hda hdt hb3 c2 cw hln hln1 hst3
  go_upto_region 12 with fail
  clear x2 f2 hW4
  have hSd : W4.drew.cell? ⟨B, 1, none⟩ = some (.map (some wm2)) ∧ W4.drew.cell? ⟨B, 2, none⟩ = some (.int .i64 NN) := ⟨y1, y2⟩
  refine wp_region_last (fun W => W.cell? ⟨B, 1, none⟩ = some (.map (some wm2)) ∧ W.cell? ⟨B, 2, none⟩ = some (.int .i64 NN)) 13 (by kernel_rfl) (by first | trivial | assumption) (fun hHeld hClosed => ?_)
  refine AnyU.take (i := 0) (v := ?_) (by kernel_rfl) (by decide) hClosed rfl (by kernel_rfl) (by kernel_rfl) (by kernel_rfl) (fun _ _ _ h => h) (Or.inl ⟨by rfl, ?_⟩) (by first | exact fun _ => hHeld | exact fun h => absurd h (by decide)) (fun hClosed2 => ?_)
  rotate_left
  · (intro w hSw; first | (go_simp; done) | (go_simp; with_reducible rfl))
  clear hClosed; have hClosed := hClosed2; clear hClosed2
  simp only [Act.put, List.setIfInBounds_toArray, List.set_cons_zero, List.set_cons_succ, List.getElem_toArray, List.getElem_cons_zero]
  refine AnyU.take (i := 1) (v := ?_) (by kernel_rfl) (by decide) hClosed rfl (by kernel_rfl) (by kernel_rfl) (by kernel_rfl) (fun _ _ _ h => h) (Or.inl ⟨by rfl, ?_⟩) (by first | exact fun _ => hHeld | exact fun h => absurd h (by decide)) (fun hClosed2 => ?_)
  rotate_left
  · (intro w hSw; first | (go_simp; done) | (go_simp; with_reducible rfl))
  clear hClosed; have hClosed := hClosed2; clear hClosed2
  simp only [Act.put, List.setIfInBounds_toArray, List.set_cons_zero, List.set_cons_succ, List.getElem_toArray, List.getElem_cons_zero, List.getElem_cons_succ]
  refine AnyU.take (i := 2) (v := ?_) (by kernel_rfl) (by decide) hClosed rfl (by kernel_rfl) (by kernel_rfl) (by kernel_rfl) (fun _ _ _ h => h) (Or.inl ⟨by rfl, ?_⟩) (by first | exact fun _ => hHeld | exact fun h => absurd h (by decide)) (fun hClosed2 => ?_)
  rotate_left
  · (intro w hSw; first | (go_simp; done) | (go_simp; with_reducible rfl))
  clear hClosed; have hClosed := hClosed2; clear hClosed2
  simp only [Act.put, List.setIfInBounds_toArray, List.set_cons_zero, List.set_cons_succ, List.getElem_toArray, List.getElem_cons_zero, List.getElem_cons_succ]
  refine AnyU.take (i := 3) (v := ?_) (by kernel_rfl) (by decide) hClosed rfl (by kernel_rfl) (by kernel_rfl) (by kernel_rfl) (fun _ _ _ h => h) (Or.inl ⟨by rfl, ?_⟩) (by first | exact fun _ => hHeld | exact fun h => absurd h (by decide)) (fun hClosed2 => ?_)
  rotate_left
  · (intro w hSw; first | (go_simp; done) | (go_simp; with_reducible rfl))
  clear hClosed; have hClosed := hClosed2; clear hClosed2
  simp only [Act.put, List.setIfInBounds_toArray, List.set_cons_zero, List.set_cons_succ, List.getElem_toArray, List.getElem_cons_zero, List.getElem_cons_succ]
  refine AnyU.take (i := 4) (v := ?_) (by kernel_rfl) (by decide) hClosed rfl (by kernel_rfl) (by kernel_rfl) (by kernel_rfl) (fun _ _ _ h => h) (Or.inl ⟨by rfl, ?_⟩) (by first | exact fun _ => hHeld | exact fun h => absurd h (by decide)) (fun hClosed2 => ?_)
  rotate_left
  · (intro w hSw; first | (go_simp; done) | (go_simp; with_reducible rfl))
  clear hClosed; have hClosed := hClosed2; clear hClosed2
  simp only [Act.put, List.setIfInBounds_toArray, List.set_cons_zero, List.set_cons_succ, List.getElem_toArray, List.getElem_cons_zero, List.getElem_cons_succ]
  refine AnyU.take (i := 5) (v := ?_) (by kernel_rfl) (by decide) hClosed rfl (by kernel_rfl) (by kernel_rfl) (by kernel_rfl) (fun _ _ _ h => h) (Or.inl ⟨by rfl, ?_⟩) (by first | exact fun _ => hHeld | exact fun h => absurd h (by decide)) (fun hClosed2 => ?_)
  rotate_left
  · (intro w hSw; first | (go_simp; done) | (go_simp; with_reducible rfl))
  clear hClosed; have hClosed := hClosed2; clear hClosed2
  simp only [Act.put, List.setIfInBounds_toArray, List.set_cons_zero, List.set_cons_succ, List.getElem_toArray, List.getElem_cons_zero, List.getElem_cons_succ]
  refine AnyU.take (i := 6) (v := ?_) (by kernel_rfl) (by decide) hClosed rfl (by kernel_rfl) (by kernel_rfl) (by kernel_rfl) (fun _ _ _ h => h) (Or.inl ⟨by rfl, ?_⟩) (by first | exact fun _ => hHeld | exact fun h => absurd h (by decide)) (fun hClosed2 => ?_)
  rotate_left
  · (intro w hSw; first | (go_simp; done) | (go_simp; with_reducible rfl))
  clear hClosed; have hClosed := hClosed2; clear hClosed2
  simp only [Act.put, List.setIfInBounds_toArray, List.set_cons_zero, List.set_cons_succ, List.getElem_toArray, List.getElem_cons_zero, List.getElem_cons_succ]
  refine AnyU.take (i := 7) (v := ?_) (by kernel_rfl) (by decide) hClosed rfl (by kernel_rfl) (by kernel_rfl) (by kernel_rfl) (fun _ _ _ h => h) (Or.inl ⟨by rfl, ?_⟩) (by first | exact fun _ => hHeld | exact fun h => absurd h (by decide)) (fun hClosed2 => ?_)
  rotate_left
  · (intro w hSw; first | (go_simp; done) | (go_simp; with_reducible rfl))
  clear hClosed; have hClosed := hClosed2; clear hClosed2
  simp only [Act.put, List.setIfInBounds_toArray, List.set_cons_zero, List.set_cons_succ, List.getElem_toArray, List.getElem_cons_zero, List.getElem_cons_succ]
  refine AnyU.take (i := 8) (v := ?_) (by kernel_rfl) (by decide) hClosed rfl (by kernel_rfl) (by kernel_rfl) (by kernel_rfl) (fun _ _ _ h => h) (Or.inl ⟨by rfl, ?_⟩) (by first | exact fun _ => hHeld | exact fun h => absurd h (by decide)) (fun hClosed2 => ?_)
  rotate_left
  · (intro w hSw; first | (go_simp; done) | (go_simp; with_reducible rfl))
  clear hClosed; have hClosed := hClosed2; clear hClosed2
  simp only [Act.put, List.setIfInBounds_toArray, List.set_cons_zero, List.set_cons_succ, List.getElem_toArray, List.getElem_cons_zero, List.getElem_cons_succ]
  refine AnyU.take (i := 9) (v := ?_) (by kernel_rfl) (by decide) hClosed rfl (by kernel_rfl) (by kernel_rfl) (by kernel_rfl) (fun _ _ _ h => h) (Or.inl ⟨by rfl, ?_⟩) (by first | exact fun _ => hHeld | exact fun h => absurd h (by decide)) (fun hClosed2 => ?_)
  rotate_left
  · (intro w hSw; first | (go_simp; done) | (go_simp; with_reducible rfl))
  clear hClosed; have hClosed := hClosed2; clear hClosed2
  simp only [Act.put, List.setIfInBounds_toArray, List.set_cons_zero, List.set_cons_succ, List.getElem_toArray, List.getElem_cons_zero, List.getElem_cons_succ]
  refine AnyU.take (i := 10) (v := ?_) (by kernel_rfl) (by decide) hClosed rfl (by kernel_rfl) (by kernel_rfl) (by kernel_rfl) (fun _ _ _ h => h) (Or.inl ⟨by rfl, ?_⟩) (by first | exact fun _ => hHeld | exact fun h => absurd h (by decide)) (fun hClosed2 => ?_)
  rotate_left
  · (intro w hSw; first | (go_simp; done) | (go_simp; with_reducible rfl))
  clear hClosed; have hClosed := hClosed2; clear hClosed2
  simp only [Act.put, List.setIfInBounds_toArray, List.set_cons_zero, List.set_cons_succ, List.getElem_toArray, List.getElem_cons_zero, List.getElem_cons_succ]
  refine AnyU.take (i := 11) (v := ?_) (by kernel_rfl) (by decide) hClosed rfl (by kernel_rfl) (by kernel_rfl) (by kernel_rfl) (fun _ _ _ h => h) (Or.inl ⟨by rfl, ?_⟩) (by first | exact fun _ => hHeld | exact fun h => absurd h (by decide)) (fun hClosed2 => ?_)
  rotate_left
  · (intro w hSw; first | (go_simp; done) | (go_simp; with_reducible rfl))
  clear hClosed; have hClosed := hClosed2; clear hClosed2
  simp only [Act.put, List.setIfInBounds_toArray, List.set_cons_zero, List.set_cons_succ, List.getElem_toArray, List.getElem_cons_zero, List.getElem_cons_succ]
  refine AnyU.take (i := 12) (v := ?_) (by kernel_rfl) (by decide) hClosed rfl (by kernel_rfl) (by kernel_rfl) (by kernel_rfl) (fun _ _ _ h => h) (Or.inl ⟨by rfl, ?_⟩) (by first | exact fun _ => hHeld | exact fun h => absurd h (by decide)) (fun hClosed2 => ?_)
  rotate_left
  · (intro w hSw; first | (go_simp; done) | (go_simp; with_reducible rfl))
  clear hClosed; have hClosed := hClosed2; clear hClosed2
  simp only [Act.put, List.setIfInBounds_toArray, List.set_cons_zero, List.set_cons_succ, List.getElem_toArray, List.getElem_cons_zero, List.getElem_cons_succ]
  refine AnyU.each (is := [13]) (by kernel_rfl) (by simp) (EachU.cons hClosed (by kernel_rfl) rfl (fun K hK => ?_) EachU.nil)
  try simp only [List.getElem_toArray, List.getElem_cons_zero, List.getElem_cons_succ]
  go_simp
  try simp only
  refine hK.out _ _ (fun h => absurd h (by decide)) (fun _ hClosed2 => ?_)
  clear hK K hClosed; have hClosed := hClosed2; clear hClosed2
  try simp only [Act.put, List.setIfInBounds_toArray, List.set_cons_zero, List.set_cons_succ, List.getElem_toArray, List.getElem_cons_zero, List.getElem_cons_succ]
  refine AnyU.done (by kernel_rfl) ?_ _
  clear hSd hHeld hClosed y1 y2 hup
  go_wp2
  go_ret2
  exact ⟨rfl, HE.out⟩
def landD (d : Sp.Disk) (n : Int) (k : Nat) (s : ByteArray) : Sp.Disk := ⟨d.l.set k s, without d.waits n, d.last⟩
theorem wr_lookup {W : World} {wm : Nat} {l : List (Int × Wr)} (hm : IM.MapAt wrV W wm l) {n : Int} {x : Wr} (hx : IM.getM l n = some x) : (Instr.lookup 196 (.map (some wm)) (.int .i64 n) true).run Tryz.prog W = .ok (.tuple #[.agg #[.int .i64 x.node, .int .i64 x.epoch, .int .i64 x.at_, .string x.s], .bool true]) W := by
  have := IM.run_lookup2 (P := Tryz.prog) (T := 196) Tryz.underlying196 Tryz.underlying3 (z := .agg #[.int .i64 0, .int .i64 0, .int .i64 0, .string ⟨#[]⟩]) (by kernel_rfl) hm n
  rw [hx] at this
  exact this
set_option maxRecDepth 20000 in
theorem diskApply_any {w : World} {base B : Nat} {d : Sp.Disk} {D : Nat → Prop} (h : DiskAt w base B d D) (hD : ∀ j, D j → j < w.heap.size) (hf : d.l[1]? = some (wallB 0 0)) (n : Int) (k : Nat) (s : ByteArray) (hx : IM.getM d.waits n = some ⟨0, 0, (k : Int), s⟩) (hk : k < d.l.length) :
    Calls Tryz.prog 89 #[pt B, .int .i64 n] w fun e w' => e = .returned (.tuple #[.bool true, .int .i64 0]) ∧ DiskAt w' base B (landD d n k s) D ∧ DskTurn w D w' := by
  obtain ⟨wm, cw, hm, hDw, hBw, -⟩ := h.waitsSet (l := d.waits)
  have hlk := wr_lookup hm hx
  have hBl : B < w.heap.size := by
    obtain ⟨⟨v, wm', h1, _⟩, _, _⟩ := h
    exact (Array.getElem?_eq_some_iff.1 h1).1
  have hst : ∀ W, Below w.heap.size w W → ∃ wm2, W.cell? ⟨B, 1, none⟩ = some (.map (some wm2)) ∧ ∃ o', (Builtin.delete_ #[196, 3] 0 #[.map (some wm2), .int .i64 n]).run Tryz.prog W = .ok (.tuple #[]) (ChangeMaps.setBlock W wm2 o') ∧
      Turn (fun j => j = wm2) W (ChangeMaps.setBlock W wm2 o') ∧ wm2 < w.heap.size ∧ B ≠ wm2 ∧
      DiskAt (ChangeMaps.setBlock W wm2 o') base B ⟨d.l, without d.waits n, d.last⟩ D ∧ DskTurn w D (ChangeMaps.setBlock W wm2 o') := fun W hW => by
    obtain ⟨wm2, k1, m2, hD2, hne2, hset⟩ := (h.below hW).waitsSet (l := without d.waits n)
    obtain ⟨o', hup, ho'⟩ := IM.run_delete (P := Tryz.prog) (T := 196) (ty := 0) Tryz.underlying196 Tryz.underlying3 m2 n
    obtain ⟨r1, r2⟩ := hset o' ho'
    exact ⟨wm2, k1, o', hup, block_turn, hD wm2 hD2, hne2, r1, DskTurn.trans hD (DskTurn.of_below hW) r2⟩
  have hend : ∀ W, DiskAt W base B ⟨d.l, without d.waits n, d.last⟩ D → DskTurn w D W → ∃ g cap, W.cell? ⟨B, 0, none⟩ = some (.slice (some ⟨g, 0, none⟩) d.l.length cap) ∧ (∃ y, W.cell? ⟨g, k, none⟩ = some y) ∧ W.frozen? ⟨g, k, none⟩ = false ∧
      DiskAt (W.setCell ⟨g, k, none⟩ (.string s)) base B (landD d n k s) D ∧ DskTurn w D (W.setCell ⟨g, k, none⟩ (.string s)) := fun W hW hT => by
    obtain ⟨g, cap, k1, k2, k3, k4, _, k5, k6, k7⟩ := lay_stored hW hk s
    obtain ⟨y, hy⟩ := Option.isSome_iff_exists.1 k2
    refine ⟨g, cap, k1, ⟨y, hy⟩, k3, k6, DskTurn.trans hD hT ⟨fun j => j = g, fun j e => e ▸ k4, fun j e => ?_, k7⟩⟩
    obtain ⟨cs, fr, he⟩ := k5 j e
    exact Or.inl ⟨cs, fr, _, he, Or.inr rfl⟩
  have hpa := fun (W : World) (hW : DiskAt W base B ⟨d.l, without d.waits n, d.last⟩ D) => diskPasses_any hW hf
  obtain ⟨N, hN⟩ : ∃ N, d.l.length = N := ⟨_, rfl⟩
  rw [hN] at hend hk
  obtain ⟨d', hd'⟩ : ∃ d', landD d n k s = d' := ⟨_, rfl⟩
  rw [hd'] at hend ⊢
  obtain ⟨dm, hdm⟩ : ∃ dm : Sp.Disk, (⟨d.l, without d.waits n, d.last⟩ : Sp.Disk) = dm := ⟨_, rfl⟩
  rw [hdm] at hst hend hpa
  have hki : (k : Int) < (N : Int) := by omega
  unfold pt at hpa ⊢
  have HD := Lib.hid hD
  have HST := Lib.hid hst
  have HEND := Lib.hid hend
  have HPA := Lib.hid hpa
  clear hst hend hpa
  clear h hD hf hm hDw hBw hx hN hd' hdm
  go_enter Tryz.func89, Tryz.ntmps89
  obtain ⟨W1, hW1⟩ : ∃ W, w.alloc (.cells #[.int .i64 0, .int .i64 0, .int .i64 (k : Int), .string s] 252) = W := ⟨_, rfl⟩
  have hb1 : Below w.heap.size w W1 := by rw [← hW1]; exact bl2 _
  have hz1 : W1.heap[w.heap.size]? = some (.cells #[.int .i64 0, .int .i64 0, .int .i64 (k : Int), .string s] 252 (0, 0)) := by rw [← hW1]; exact heapNew w _
  obtain ⟨wm2, y1, o', hup, hT2, hlt2, hne2, hda, hdt⟩ := HST.out W1 hb1
  obtain ⟨W2, hW2⟩ : ∃ W, ChangeMaps.setBlock W1 wm2 o' = W := ⟨_, rfl⟩
  rw [hW2] at hup hT2 hda hdt
  have hz2 := hT2.heap hz1 (by omega)
  have x0 := cellOf (k := 0) hz2 rfl
  have x1 := cellOf (k := 1) hz2 rfl
  have HZ2 := Lib.hid hz2
  have HD2 := Lib.hid hda
  have HT2 := Lib.hid hdt
  have HS2 : Hid (w.heap.size < W2.heap.size) := (Array.getElem?_eq_some_iff.1 hz2).1
  clear hb1 hz1 hT2 hda hdt hz2 HST
  go_wp2_with fail
  clear x0 x1 y1 hup hlk cw hW1 hW2
  refine (HPA.out W2 HD2.out).mono ?_
  rintro e w3 ⟨rfl, hb3⟩
  have HZ3 := Lib.hid (heapOld hb3 HZ2.out)
  have hb4 : Below W2.heap.size W2 w3.drew := blD hb3
  obtain ⟨g, cap, c0, ⟨y, hy⟩, hfz, hda, hdt⟩ := HEND.out w3.drew (HD2.out.below hb4) (DskTurn.trans HD.out HT2.out (DskTurn.of_below hb4))
  have HE : Hid (DiskAt (w3.drew.setCell ⟨g, k, none⟩ (.string s)) base B d' D ∧ DskTurn w D (w3.drew.setCell ⟨g, k, none⟩ (.string s))) := ⟨hda, hdt⟩
  have z2 := cellOf (k := 2) (show w3.drew.heap[w.heap.size]? = _ from HZ3.out) rfl
  have z3 := cellOf (k := 3) (show w3.drew.heap[w.heap.size]? = _ from HZ3.out) rfl
  clear hb3 hb4 hda hdt HEND HPA
  go_upto_region 7 with fail
  have hSd : w3.drew.cell? ⟨B, 0, none⟩ = some (.slice (some ⟨g, 0, none⟩) N cap) ∧ w3.drew.cell? ⟨w.heap.size, 2, none⟩ = some (.int .i64 (k : Int)) ∧ w3.drew.cell? ⟨w.heap.size, 3, none⟩ = some (.string s) := ⟨c0, z2, z3⟩
  refine wp_region_last (fun W => W.cell? ⟨B, 0, none⟩ = some (.slice (some ⟨g, 0, none⟩) N cap) ∧ W.cell? ⟨w.heap.size, 2, none⟩ = some (.int .i64 (k : Int)) ∧ W.cell? ⟨w.heap.size, 3, none⟩ = some (.string s)) 9 (by kernel_rfl) (by first | trivial | assumption) (fun hHeld hClosed => ?_)
  refine AnyU.take (i := 0) (v := ?_) (by kernel_rfl) (by decide) hClosed rfl (by kernel_rfl) (by kernel_rfl) (by kernel_rfl) (fun _ _ _ h => h) (Or.inl ⟨by rfl, ?_⟩) (by first | exact fun _ => hHeld | exact fun h => absurd h (by decide)) (fun hClosed2 => ?_)
  rotate_left
  · (intro w hSw; first | (go_simp; done) | (go_simp; with_reducible rfl))
  clear hClosed; have hClosed := hClosed2; clear hClosed2
  simp only [Act.put, List.setIfInBounds_toArray, List.set_cons_zero, List.set_cons_succ, List.getElem_toArray, List.getElem_cons_zero]
  refine AnyU.take (i := 1) (v := ?_) (by kernel_rfl) (by decide) hClosed rfl (by kernel_rfl) (by kernel_rfl) (by kernel_rfl) (fun _ _ _ h => h) (Or.inl ⟨by rfl, ?_⟩) (by first | exact fun _ => hHeld | exact fun h => absurd h (by decide)) (fun hClosed2 => ?_)
  rotate_left
  · (intro w hSw; first | (go_simp; done) | (go_simp; with_reducible rfl))
  clear hClosed; have hClosed := hClosed2; clear hClosed2
  simp only [Act.put, List.setIfInBounds_toArray, List.set_cons_zero, List.set_cons_succ, List.getElem_toArray, List.getElem_cons_zero, List.getElem_cons_succ]
  refine AnyU.take (i := 2) (v := ?_) (by kernel_rfl) (by decide) hClosed rfl (by kernel_rfl) (by kernel_rfl) (by kernel_rfl) (fun _ _ _ h => h) (Or.inl ⟨by rfl, ?_⟩) (by first | exact fun _ => hHeld | exact fun h => absurd h (by decide)) (fun hClosed2 => ?_)
  rotate_left
  · (intro w hSw; first | (go_simp; done) | (go_simp; with_reducible rfl))
  clear hClosed; have hClosed := hClosed2; clear hClosed2
  simp only [Act.put, List.setIfInBounds_toArray, List.set_cons_zero, List.set_cons_succ, List.getElem_toArray, List.getElem_cons_zero, List.getElem_cons_succ]
  refine AnyU.take (i := 3) (v := ?_) (by kernel_rfl) (by decide) hClosed rfl (by kernel_rfl) (by kernel_rfl) (by kernel_rfl) (fun _ _ _ h => h) (Or.inl ⟨by rfl, ?_⟩) (by first | exact fun _ => hHeld | exact fun h => absurd h (by decide)) (fun hClosed2 => ?_)
  rotate_left
  · (intro w hSw; first | (go_simp; done) | (go_simp; with_reducible rfl))
  clear hClosed; have hClosed := hClosed2; clear hClosed2
  simp only [Act.put, List.setIfInBounds_toArray, List.set_cons_zero, List.set_cons_succ, List.getElem_toArray, List.getElem_cons_zero, List.getElem_cons_succ]
  refine AnyU.take (i := 4) (v := ?_) (by kernel_rfl) (by decide) hClosed rfl (by kernel_rfl) (by kernel_rfl) (by kernel_rfl) (fun _ _ _ h => h) (Or.inl ⟨by rfl, ?_⟩) (by first | exact fun _ => hHeld | exact fun h => absurd h (by decide)) (fun hClosed2 => ?_)
  rotate_left
  · (intro w hSw; first | (go_simp; done) | (go_simp; with_reducible rfl))
  clear hClosed; have hClosed := hClosed2; clear hClosed2
  simp only [Act.put, List.setIfInBounds_toArray, List.set_cons_zero, List.set_cons_succ, List.getElem_toArray, List.getElem_cons_zero, List.getElem_cons_succ]
  refine AnyU.take (i := 5) (v := ?_) (by kernel_rfl) (by decide) hClosed rfl (by kernel_rfl) (by kernel_rfl) (by kernel_rfl) (fun _ _ _ h => h) (Or.inl ⟨by rfl, ?_⟩) (by first | exact fun _ => hHeld | exact fun h => absurd h (by decide)) (fun hClosed2 => ?_)
  rotate_left
  · (intro w hSw; first | (go_simp; done) | (go_simp; with_reducible rfl))
  clear hClosed; have hClosed := hClosed2; clear hClosed2
  simp only [Act.put, List.setIfInBounds_toArray, List.set_cons_zero, List.set_cons_succ, List.getElem_toArray, List.getElem_cons_zero, List.getElem_cons_succ]
  refine AnyU.take (i := 6) (v := ?_) (by kernel_rfl) (by decide) hClosed rfl (by kernel_rfl) (by kernel_rfl) (by kernel_rfl) (fun _ _ _ h => h) (Or.inl ⟨by rfl, ?_⟩) (by first | exact fun _ => hHeld | exact fun h => absurd h (by decide)) (fun hClosed2 => ?_)
  rotate_left
  · (intro w hSw; first | (go_simp; done) | (go_simp; with_reducible rfl))
  clear hClosed; have hClosed := hClosed2; clear hClosed2
  simp only [Act.put, List.setIfInBounds_toArray, List.set_cons_zero, List.set_cons_succ, List.getElem_toArray, List.getElem_cons_zero, List.getElem_cons_succ]
  refine AnyU.take (i := 7) (v := ?_) (by kernel_rfl) (by decide) hClosed rfl (by kernel_rfl) (by kernel_rfl) (by kernel_rfl) (fun _ _ _ h => h) (Or.inl ⟨by rfl, ?_⟩) (by first | exact fun _ => hHeld | exact fun h => absurd h (by decide)) (fun hClosed2 => ?_)
  rotate_left
  · (intro w hSw; first | (go_simp; done) | (go_simp; with_reducible rfl))
  clear hClosed; have hClosed := hClosed2; clear hClosed2
  simp only [Act.put, List.setIfInBounds_toArray, List.set_cons_zero, List.set_cons_succ, List.getElem_toArray, List.getElem_cons_zero, List.getElem_cons_succ]
  refine AnyU.take (i := 8) (v := ?_) (by kernel_rfl) (by decide) hClosed rfl (by kernel_rfl) (by kernel_rfl) (by kernel_rfl) (fun _ _ _ h => h) (Or.inl ⟨by rfl, ?_⟩) (by first | exact fun _ => hHeld | exact fun h => absurd h (by decide)) (fun hClosed2 => ?_)
  rotate_left
  · (intro w hSw; first | (go_simp; done) | (go_simp; with_reducible rfl))
  clear hClosed; have hClosed := hClosed2; clear hClosed2
  simp only [Act.put, List.setIfInBounds_toArray, List.set_cons_zero, List.set_cons_succ, List.getElem_toArray, List.getElem_cons_zero, List.getElem_cons_succ]
  refine AnyU.each (is := [9]) (by kernel_rfl) (by simp) (EachU.cons hClosed (by kernel_rfl) rfl (fun K hK => ?_) EachU.nil)
  try simp only [List.getElem_toArray, List.getElem_cons_zero, List.getElem_cons_succ]
  go_simp
  try simp only
  refine hK.out _ _ (fun h => absurd h (by decide)) (fun _ hClosed2 => ?_)
  clear hK K hClosed; have hClosed := hClosed2; clear hClosed2
  try simp only [Act.put, List.setIfInBounds_toArray, List.set_cons_zero, List.set_cons_succ, List.getElem_toArray, List.getElem_cons_zero, List.getElem_cons_succ]
  refine AnyU.done (by kernel_rfl) ?_ _
  clear hSd hHeld hClosed c0 z2 z3 hy hfz
  go_wp2
  go_ret2
  exact ⟨rfl, HE.out⟩
def dropD (d : Sp.Disk) (n : Int) : Sp.Disk := ⟨d.l, without d.waits n, d.last⟩
set_option maxRecDepth 20000 in
theorem diskDrop_any {w : World} {base B : Nat} {d : Sp.Disk} {D : Nat → Prop} (h : DiskAt w base B d D) (hD : ∀ j, D j → j < w.heap.size) (n : Int) (x : Wr) (hx : IM.getM d.waits n = some x) :
    Calls Tryz.prog 91 #[pt B, .int .i64 n] w fun e w' => e = .returned (.int .i64 0) ∧ DiskAt w' base B (dropD d n) D ∧ DskTurn w D w' := by
  obtain ⟨wm, cw, hm, hDw, hBw, -⟩ := h.waitsSet (l := d.waits)
  have hlk := wr_lookup hm hx
  have hBl : B < w.heap.size := by
    obtain ⟨⟨v, wm', h1, _⟩, _, _⟩ := h
    exact (Array.getElem?_eq_some_iff.1 h1).1
  have hst : ∀ W, Below w.heap.size w W → ∃ wm2, W.cell? ⟨B, 1, none⟩ = some (.map (some wm2)) ∧ ∃ o', (Builtin.delete_ #[196, 3] 0 #[.map (some wm2), .int .i64 n]).run Tryz.prog W = .ok (.tuple #[]) (ChangeMaps.setBlock W wm2 o') ∧
      DiskAt (ChangeMaps.setBlock W wm2 o') base B (dropD d n) D ∧ DskTurn w D (ChangeMaps.setBlock W wm2 o') := fun W hW => by
    obtain ⟨wm2, k1, m2, hD2, hne2, hset⟩ := (h.below hW).waitsSet (l := without d.waits n)
    obtain ⟨o', hup, ho'⟩ := IM.run_delete (P := Tryz.prog) (T := 196) (ty := 0) Tryz.underlying196 Tryz.underlying3 m2 n
    obtain ⟨r1, r2⟩ := hset o' ho'
    exact ⟨wm2, k1, o', hup, r1, DskTurn.trans hD (DskTurn.of_below hW) r2⟩
  obtain ⟨xn, xe, xa, xs⟩ := x
  dsimp only at hlk
  unfold pt
  have HST := Lib.hid hst
  clear hst
  clear h hD hm hDw hBw hx
  go_enter Tryz.func91, Tryz.ntmps91
  obtain ⟨W1, hW1⟩ : ∃ W, w.alloc (.cells #[.int .i64 xn, .int .i64 xe, .int .i64 xa, .string xs] 252) = W := ⟨_, rfl⟩
  have hb1 : Below w.heap.size w W1 := by rw [← hW1]; exact bl2 _
  obtain ⟨wm2, y1, o', hup, hda, hdt⟩ := HST.out W1 hb1
  have HE : Hid (DiskAt (ChangeMaps.setBlock W1 wm2 o') base B (dropD d n) D ∧ DskTurn w D (ChangeMaps.setBlock W1 wm2 o')) := ⟨hda, hdt⟩
  clear hb1 hda hdt HST
  go_wp2
  go_ret
  exact ⟨rfl, HE.out⟩
end
end Go.Proofs.YtgofmnhfajmbfaaGreatDoor
