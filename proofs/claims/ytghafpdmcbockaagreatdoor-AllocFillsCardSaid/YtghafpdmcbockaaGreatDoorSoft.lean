/-
  Walks of layer 14: New, Read.
-/
import Derived.Test.YtghafpdmcbockaaGreatDoorDepsAdd
namespace Go.Proofs.YtghafpdmcbockaaGreatDoor
open Go Go.RowKit Txt Sp

/-- What a side reads, with a code. -/
theorem read_has {S : Sp.Side} (hS : S.Ok) {i : Int} (h : S.disk.has i) : (S.disk.get i).size = 64 := by
  refine hS.sect _ ?_
  unfold Sp.Disk.get
  have hlt : i.toNat < S.disk.l.length := by unfold Sp.Disk.has at h; omega
  rw [List.getD_eq_getElem?_getD, List.getElem?_eq_getElem hlt]
  exact List.getElem_mem hlt
section
set_option maxHeartbeats 2000000
set_option maxRecDepth 20000 in
theorem softRead_any {w : World} {base B Bd : Nat} {S : Sp.Side} {D : Nat → Prop} (h : SideAt w base B Bd S D) (hS : S.Ok) (i : Int) :
    Calls Tryz.prog 73 #[pt B, .int .i64 i] w fun e w' => e = .returned (.tuple #[.string (S.read i), .int .i64 (S.readC i)]) ∧ Below w.heap.size w w' := by
  obtain ⟨⟨Bc, fm, h1, h2, -, -, -⟩, hd, -, -⟩ := h
  have hr := diskRead_any hd i
  have hvw := fun hi : S.disk.has i => depsView_any h2 hS.deps i (S.disk.get i) (read_has hS hi)
  have c0 := cellOf (k := 0) h1 rfl
  have c1 := cellOf (k := 1) h1 rfl
  unfold Sp.Disk.read Sp.Disk.readC at hr
  unfold Sp.Side.read Sp.Side.readC Sp.Disk.readC
  unfold pt at c0 c1 hr hvw ⊢
  by_cases hi : S.disk.has i
  · have hv := hvw hi
    rw [if_pos hi, if_pos hi] at hr
    rw [if_pos hi, if_pos hi]
    obtain ⟨x, hx⟩ : ∃ x, S.disk.get i = x := ⟨_, rfl⟩
    rw [hx] at hr hv ⊢
    obtain ⟨y, hy⟩ : ∃ y, S.deps.view i x = y := ⟨_, rfl⟩
    rw [hy] at hv ⊢
    have HR := Lib.hid hr
    have HV := Lib.hid hv
    clear hr hv
    clear hvw hx hy h1 h2 hd hS hi
    go_enter Tryz.func73, Tryz.ntmps73
    go_wp2_with fail
    refine HR.out.mono ?_
    rintro e w1 ⟨rfl, hw1⟩
    subst hw1
    go_wp2_with fail
    refine HV.out.mono ?_
    rintro e w2 ⟨rfl, hb2⟩
    have HB2 := Lib.hid hb2
    clear hb2
    go_wp2
    go_ret2
    exact ⟨rfl, HB2.out⟩
  · rw [if_neg hi, if_neg hi] at hr
    rw [if_neg hi, if_neg hi]
    have HR := Lib.hid hr
    clear hr
    clear hvw h1 h2 hd hS hi
    go_enter Tryz.func73, Tryz.ntmps73
    go_wp2_with fail
    refine HR.out.mono ?_
    rintro e w1 ⟨rfl, hw1⟩
    subst hw1
    go_wp2
    go_ret2
    exact ⟨rfl, Below.refl _ _⟩
/-- Places of changes alone. -/
def ChgK (w : World) (K : Nat → Prop) : Prop := ∀ j, K j → ∃ cs fr e, w.heap[j]? = some (.cells cs e fr) ∧ (e = 188 ∨ e = 190)
theorem ChgK.not {w : World} {K : Nat → Prop} (h : ChgK w K) {k : Nat} {cs : Array Value} {e : TypeId} {fr : Nat × Nat} (hk : w.heap[k]? = some (.cells cs e fr)) (h1 : e ≠ 188) (h2 : e ≠ 190) : ¬ K k := fun hK => by
  obtain ⟨cs', fr', e', h', he⟩ := h k hK
  rw [hk] at h'
  cases h'
  exact he.elim h1 h2
theorem ChgK.notMap {w : World} {K : Nat → Prop} (h : ChgK w K) {α : Type} {enc : α → Value} {k : Nat} {l : List (Int × α)} (hm : IM.MapAt enc w k l) : ¬ K k := fun hK => by
  obtain ⟨cs', fr', e', h', _⟩ := h k hK
  obtain ⟨o, ho, es, cl, rfl, _⟩ := hm
  rw [ho] at h'
  cases h'
theorem DiskAt.turnK {w w' : World} {base B : Nat} {d : Sp.Disk} {D K : Nat → Prop} (h : DiskAt w base B d D) (hT : Turn K w w') (hK : ChgK w K) : DiskAt w' base B d D := by
  obtain ⟨⟨v, wm, h1, h2, h3, h4, h5, h6⟩, ho, hl⟩ := h
  refine ⟨⟨v, wm, hT.heap h1 (hK.not h1 (by decide) (by decide)), h2.turn hT (fun k hv => ?_), ?_, h4, h5, h6⟩, ho, hl⟩
  · obtain ⟨_, ⟨rfl, _⟩ | ⟨g, cap, cur, rfl, hg, hh, _⟩⟩ := h2
    · cases hv
    · cases hv
      exact hK.not hh (by decide) (by decide)
  · have hn := hK.notMap h3
    obtain ⟨o, h3, h3'⟩ := h3
    exact ⟨o, hT.heap h3 hn, h3'⟩
/-- What Change leaves. -/
def ChangePost (w : World) (base B Bd : Nat) (S : Sp.Side) (D : Nat → Prop) (i off : Int) (b : ByteArray) (ahead : List Int) (e : Ending) (w' : World) : Prop :=
  e = .returned (.tuple #[.int .i64 (S.changeN i off b ahead), .int .i64 (S.changeC i off b ahead)]) ∧
  SideAt w' base B Bd (S.change i off b ahead) (fun j => D j ∨ (w.heap.size ≤ j ∧ j < w'.heap.size)) ∧ ∃ K, (∀ j, K j → D j) ∧ Turn K w w'
theorem SideAt.mono {w : World} {base B Bd : Nat} {S : Sp.Side} {D D' : Nat → Prop} (h : SideAt w base B Bd S D) (hd : ∀ k, D k → D' k) : SideAt w base B Bd S D' := by
  obtain ⟨⟨Bc, fm, h1, h2, h3, h4, h5⟩, h6, h7, h8⟩ := h
  exact ⟨⟨Bc, fm, h1, h2.mono hd, h3, h4, hd _ h5⟩, h6.mono hd, hd _ h7, h8⟩
theorem depsAdd_any {w : World} {base B : Nat} {d : Sp.Deps} {D : Nat → Prop} (h : DepsAt w base B d D) (hok : d.Ok) (hlast : d.last < 1000000000) (i off : Int) (b : ByteArray) (v : Value) (ahead : List Int) (hv : Ints w v ahead) (hal : ahead.length ≤ 100000) :
    Calls Tryz.prog 209 #[pt B, .int .i64 i, .agg #[.int .i64 off, .string b], v] w (AddPost w base B d D i off b ahead) := by
  by_cases hr : 0 ≤ i ∧ i < 2048 ∧ inside off b.size
  · exact depsAdd_in h hok hlast i off b v ahead hv hal hr
  · exact depsAdd_range h i off b v ahead hr
theorem change_add {w w' : World} {base B Bd Bc fm : Nat} {S : Sp.Side} {D : Nat → Prop} {i off : Int} {b : ByteArray} {ahead : List Int} (hi : S.disk.has i) (h1 : w.heap[B]? = some (softO Bc Bd S.node S.epoch fm)) (h3 : IM.MapAt intV w fm S.fly) (h4 : base ≤ fm) (h5 : D fm) (hd : DiskAt w base Bd S.disk D) (ho : D B) (hl : base ≤ B)
    {w0 : World} {e : Ending} (hb : Below w0.heap.size w0 w) (h : AddPost w base Bc S.deps D i off b ahead e w') : ChangePost w0 base B Bd S D i off b ahead e w' := by
  obtain ⟨he, hda, K, hK, hT⟩ := h
  have hCK : ChgK w K := fun j hj => (hK j hj).2
  have hcc : S.changeC i off b ahead = S.deps.addC i off b ahead := if_pos hi
  have hD : ∀ k, (D k ∨ (w.heap.size ≤ k ∧ k < w'.heap.size)) → D k ∨ (w0.heap.size ≤ k ∧ k < w'.heap.size) := fun k hk => hk.imp_right fun h => ⟨Nat.le_trans hb.size h.1, h.2⟩
  refine ⟨?_, ?_, K, fun j hj => (hK j hj).1, ?_⟩
  · rw [he, hcc]
    unfold Sp.Side.changeN
    rw [hcc]
  · have hside : SideAt w' base B Bd ⟨S.disk, S.deps.add i off b ahead, S.node, S.epoch, S.fly⟩ (fun j => D j ∨ (w0.heap.size ≤ j ∧ j < w'.heap.size)) := by
      have hn := hCK.notMap h3
      refine ⟨⟨Bc, fm, hT.heap h1 (hCK.not h1 (by decide) (by decide)), hda.mono hD, ?_, h4, Or.inl h5⟩, (hd.turnK hT hCK).mono (fun k hk => Or.inl hk), Or.inl ho, hl⟩
      obtain ⟨o, h3, h3'⟩ := h3
      exact ⟨o, hT.heap h3 hn, h3'⟩
    unfold Sp.Side.change
    rw [hcc]
    by_cases h0 : S.deps.addC i off b ahead = 0
    · rw [if_pos h0]
      exact hside
    · rw [if_neg h0]
      have hadd : S.deps.add i off b ahead = S.deps := by unfold Sp.Deps.add; rw [if_neg h0]
      rw [hadd] at hside
      exact hside
  · exact (Turn.of_below (K := K) hb).trans hT (fun _ _ h => h) (fun _ _ h => h)
set_option maxRecDepth 20000 in
theorem softChange_any {w : World} {base B Bd : Nat} {S : Sp.Side} {D : Nat → Prop} (h : SideAt w base B Bd S D) (hS : S.Ok) (hlast : S.deps.last < 1000000000) (i off : Int) (b : ByteArray) (v : Value) (ahead : List Int) (hv : Ints w v ahead) (hal : ahead.length ≤ 100000) :
    Calls Tryz.prog 151 #[pt B, .int .i64 i, .agg #[.int .i64 off, .string b], v] w (ChangePost w base B Bd S D i off b ahead) := by
  have hall := h
  obtain ⟨⟨Bc, fm, h1, h2, h3, h4, h5⟩, hd, ho, hl⟩ := h
  obtain ⟨W1, hW1⟩ : ∃ W, w.alloc (.cells #[.int .i64 off, .string b] 172) = W := ⟨_, rfl⟩
  have hb1 : Below w.heap.size w W1 := by rw [← hW1]; exact bl2 _
  have hz1 : W1.heap[w.heap.size]? = some (.cells #[.int .i64 off, .string b] 172 (0, 0)) := by rw [← hW1]; exact heapNew w _
  have hr := diskRead_any (hd.below hb1) i
  have h11 := heapOld hb1 h1
  have c0 := cellOf (k := 0) h11 rfl
  have c1 := cellOf (k := 1) h11 rfl
  have x0 := cellOf (k := 0) hz1 rfl
  have x1 := cellOf (k := 1) hz1 rfl
  unfold Sp.Disk.read Sp.Disk.readC at hr
  unfold pt at c0 c1 hr ⊢
  by_cases hi : S.disk.has i
  · rw [if_pos hi, if_pos hi] at hr
    obtain ⟨x, hx⟩ : ∃ x, S.disk.get i = x := ⟨_, rfl⟩
    rw [hx] at hr
    have hbd : Below w.heap.size w W1.drew := blD hb1
    have hadd := depsAdd_any (h2.below hbd) hS.deps hlast i off b v ahead (hv.below hbd) hal
    have hfin := fun (e : Ending) (w' : World) (hA : AddPost W1.drew base Bc S.deps D i off b ahead e w') => change_add hi (heapOld hbd h1) (h3.old (hbd.block fm h3.lt)) h4 h5 (hd.below hbd) ho hl hbd hA
    have hS3 : ∀ w', (∃ K, (∀ j, K j → ∃ cs fr e, W1.drew.heap[j]? = some (.cells cs e fr) ∧ (e = 188 ∨ e = 190)) ∧ Turn K W1.drew w') → (w'.cell? ⟨B, 0, none⟩ = some (.pointer (some ⟨Bc, 0, none⟩)) ∧ w'.cell? ⟨w.heap.size, 0, none⟩ = some (.int .i64 off) ∧ w'.cell? ⟨w.heap.size, 1, none⟩ = some (.string b)) := by
      rintro w' ⟨K, hK, hT⟩
      have hCK : ChgK W1.drew K := hK
      have g1 := hT.heap (heapOld hbd h1) (hCK.not (heapOld hbd h1) (by decide) (by decide))
      have g2 := hT.heap (show W1.drew.heap[w.heap.size]? = _ from hz1) (hCK.not (show W1.drew.heap[w.heap.size]? = _ from hz1) (by decide) (by decide))
      exact ⟨cellOf (k := 0) g1 rfl, cellOf (k := 0) g2 rfl, cellOf (k := 1) g2 rfl⟩
    obtain ⟨Q, hQ⟩ : ∃ Q, ChangePost w base B Bd S D i off b ahead = Q := ⟨_, rfl⟩
    rw [hQ] at hfin ⊢
    unfold pt at hadd
    have hSd : (W1.drew.cell? ⟨B, 0, none⟩ = some (.pointer (some ⟨Bc, 0, none⟩)) ∧ W1.drew.cell? ⟨w.heap.size, 0, none⟩ = some (.int .i64 off) ∧ W1.drew.cell? ⟨w.heap.size, 1, none⟩ = some (.string b)) := ⟨c0, x0, x1⟩
    have HR := Lib.hid hr
    have HADD := Lib.hid hadd
    have HFIN := Lib.hid hfin
    have HS3 := Lib.hid hS3
    clear hr hadd hfin hS3
    clear h1 h2 h3 hd hS hi hall hz1 h11 hv hx hbd hb1 hQ
    go_enter Tryz.func151, Tryz.ntmps151
    go_wp2_with fail
    refine HR.out.mono ?_
    rintro e w1 ⟨rfl, hw1⟩
    subst hw1
    go_wp2_with fail
    refine wp_region_held_drew (S := (fun W => W.cell? ⟨B, 0, none⟩ = some (.pointer (some ⟨Bc, 0, none⟩)) ∧ W.cell? ⟨w.heap.size, 0, none⟩ = some (.int .i64 off) ∧ W.cell? ⟨w.heap.size, 1, none⟩ = some (.string b))) (by kernel_rfl) (by first | trivial | assumption) (fun hHeld => ?_)
    refine wpAnyH_take (i := 0) (v := ?_) rfl (by kernel_rfl) (by kernel_rfl) (by kernel_rfl) (fun _ _ _ h => h) (Or.inl ⟨by rfl, ?_⟩) hHeld ?_
    rotate_left
    · (intro w hSw; first | (go_simp; done) | (go_simp; with_reducible rfl))
    simp only [Act.put, List.setIfInBounds_toArray, List.set_cons_zero, List.set_cons_succ, List.getElem_toArray, List.getElem_cons_zero]
    refine wpAnyH_take (i := 1) (v := ?_) rfl (by kernel_rfl) (by kernel_rfl) (by kernel_rfl) (fun _ _ _ h => h) (Or.inl ⟨by rfl, ?_⟩) hHeld ?_
    rotate_left
    · (intro w hSw; first | (go_simp; done) | (go_simp; with_reducible rfl))
    simp only [Act.put, List.setIfInBounds_toArray, List.set_cons_zero, List.set_cons_succ, List.getElem_toArray, List.getElem_cons_zero, List.getElem_cons_succ]
    refine wpAnyH_take (i := 2) (v := ?_) rfl (by kernel_rfl) (by kernel_rfl) (by kernel_rfl) (fun _ _ _ h => h) (Or.inl ⟨by rfl, ?_⟩) hHeld ?_
    rotate_left
    · (intro w hSw; first | (go_simp; done) | (go_simp; with_reducible rfl))
    simp only [Act.put, List.setIfInBounds_toArray, List.set_cons_zero, List.set_cons_succ, List.getElem_toArray, List.getElem_cons_zero, List.getElem_cons_succ]
    refine wpAnyH_take (i := 3) (v := ?_) rfl (by kernel_rfl) (by kernel_rfl) (by kernel_rfl) (fun _ _ _ h => h) (Or.inl ⟨by rfl, ?_⟩) hHeld ?_
    rotate_left
    · (intro w hSw; first | (go_simp; done) | (go_simp; with_reducible rfl))
    simp only [Act.put, List.setIfInBounds_toArray, List.set_cons_zero, List.set_cons_succ, List.getElem_toArray, List.getElem_cons_zero, List.getElem_cons_succ]
    refine wpAnyH_take (i := 4) (v := ?_) rfl (by kernel_rfl) (by kernel_rfl) (by kernel_rfl) (fun _ _ _ h => h) (Or.inl ⟨by rfl, ?_⟩) hHeld ?_
    rotate_left
    · (intro w hSw; first | (go_simp; done) | (go_simp; with_reducible rfl))
    simp only [Act.put, List.setIfInBounds_toArray, List.set_cons_zero, List.set_cons_succ, List.getElem_toArray, List.getElem_cons_zero, List.getElem_cons_succ]
    refine wpAnyH_take (i := 5) (v := ?_) rfl (by kernel_rfl) (by kernel_rfl) (by kernel_rfl) (fun _ _ _ h => h) (Or.inl ⟨by rfl, ?_⟩) hHeld ?_
    rotate_left
    · (intro w hSw; first | (go_simp; done) | (go_simp; with_reducible rfl))
    simp only [Act.put, List.setIfInBounds_toArray, List.set_cons_zero, List.set_cons_succ, List.getElem_toArray, List.getElem_cons_zero, List.getElem_cons_succ]
    refine wpAnyH_take (i := 6) (v := ?_) rfl (by kernel_rfl) (by kernel_rfl) (by kernel_rfl) (fun _ _ _ h => h) (Or.inl ⟨by rfl, ?_⟩) hHeld ?_
    rotate_left
    · (intro w hSw; first | (go_simp; done) | (go_simp; with_reducible rfl))
    simp only [Act.put, List.setIfInBounds_toArray, List.set_cons_zero, List.set_cons_succ, List.getElem_toArray, List.getElem_cons_zero, List.getElem_cons_succ]
    refine wpAnyH_ready (rs := [7]) (by kernel_rfl) (by simp) ?_
    refine AllReadyH.cons rfl (fun K hK => ?_) AllReadyH.nil
    try simp only [List.getElem_toArray, List.getElem_cons_zero, List.getElem_cons_succ]
    go_simp
    refine HADD.out.mono ?_
    rintro e w3 hA
    have HF := Lib.hid (HFIN.out _ _ hA)
    obtain ⟨he, -, K', hK', hT'⟩ := hA
    obtain ⟨X, hX⟩ : ∃ X : Int, (if S.deps.addC i off b ahead = 0 then (S.deps.last : Int) + 1 else 0) = X := ⟨_, rfl⟩
    obtain ⟨Y, hY⟩ : ∃ Y : Int, S.deps.addC i off b ahead = Y := ⟨_, rfl⟩
    rw [hX, hY] at he
    clear hX hY
    subst he
    have hs3 := HS3.out w3 ⟨K', fun j hj => (hK' j hj).2, hT'⟩
    clear hK' hT'
    try simp only
    refine hK.out _ _ ?hkS (fun hHeld => ?_)
    case hkS =>
      exact hs3
    clear hK K
    try simp only [Act.put, List.setIfInBounds_toArray, List.set_cons_zero, List.set_cons_succ]
    refine wpAnyH_take (i := 8) (v := ?_) rfl (by kernel_rfl) (by kernel_rfl) (by kernel_rfl) (fun _ _ _ h => h) (Or.inl ⟨by rfl, ?_⟩) hHeld ?_
    rotate_left
    · (intro w hSw; first | (go_simp; done) | (go_simp; with_reducible rfl))
    simp only [Act.put, List.setIfInBounds_toArray, List.set_cons_zero, List.set_cons_succ, List.getElem_toArray, List.getElem_cons_zero, List.getElem_cons_succ]
    refine wpAnyH_take (i := 9) (v := ?_) rfl (by kernel_rfl) (by kernel_rfl) (by kernel_rfl) (fun _ _ _ h => h) (Or.inl ⟨by rfl, ?_⟩) hHeld ?_
    rotate_left
    · (intro w hSw; first | (go_simp; done) | (go_simp; with_reducible rfl))
    simp only [Act.put, List.setIfInBounds_toArray, List.set_cons_zero, List.set_cons_succ, List.getElem_toArray, List.getElem_cons_zero, List.getElem_cons_succ]
    refine wpAnyH_take (i := 10) (v := ?_) rfl (by kernel_rfl) (by kernel_rfl) (by kernel_rfl) (fun _ _ _ h => h) (Or.inl ⟨by rfl, ?_⟩) hHeld ?_
    rotate_left
    · (intro w hSw; first | (go_simp; done) | (go_simp; with_reducible rfl))
    simp only [Act.put, List.setIfInBounds_toArray, List.set_cons_zero, List.set_cons_succ, List.getElem_toArray, List.getElem_cons_zero, List.getElem_cons_succ]
    refine wpAnyH_take (i := 11) (v := ?_) rfl (by kernel_rfl) (by kernel_rfl) (by kernel_rfl) (fun _ _ _ h => h) (Or.inl ⟨by rfl, ?_⟩) hHeld ?_
    rotate_left
    · (intro w hSw; first | (go_simp; done) | (go_simp; with_reducible rfl))
    simp only [Act.put, List.setIfInBounds_toArray, List.set_cons_zero, List.set_cons_succ, List.getElem_toArray, List.getElem_cons_zero, List.getElem_cons_succ]
    refine wpAnyH_done (by kernel_rfl) ?_ _
    clear hHeld hs3
    go_wp2
    first | exact HF.out | (go_ret2; exact HF.out)
  · rw [if_neg hi, if_neg hi] at hr
    have hcc : S.changeC i off b ahead = 1 := if_neg hi
    have HP : Hid (∀ w', Below w.heap.size w w' → ChangePost w base B Bd S D i off b ahead (.returned (.tuple #[.int .i64 0, .int .i64 1])) w') := fun w' hb => by
      refine ⟨?_, ?_, fun _ => False, fun _ h => h.elim, Turn.of_below hb⟩
      · unfold Sp.Side.changeN
        rw [hcc]
        rfl
      · have e : S.change i off b ahead = S := by unfold Sp.Side.change; rw [if_neg (by rw [hcc]; decide)]
        rw [e]
        exact (hall.below hb).mono (fun k hk => Or.inl hk)
    have HB1 := Lib.hid hb1
    have HR := Lib.hid hr
    clear hr
    clear h1 h2 h3 hd hS hi hall hcc hz1 h11 hb1 hv
    go_enter Tryz.func151, Tryz.ntmps151
    go_wp2_with fail
    refine HR.out.mono ?_
    rintro e w1 ⟨rfl, hw1⟩
    subst hw1
    go_wp2
    first | exact HP.out _ HB1.out | (go_ret2; exact HP.out _ HB1.out)
end
end Go.Proofs.YtghafpdmcbockaaGreatDoor
