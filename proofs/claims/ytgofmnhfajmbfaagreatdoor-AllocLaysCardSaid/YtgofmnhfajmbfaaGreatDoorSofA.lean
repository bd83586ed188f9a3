/-
  SofA: Soft, SoftNew, MapSet, MapAsk, GeomBlk, MapTaken.
-/
import Derived.Test.YtgofmnhfajmbfaaGreatDoorDepB
import Derived.Test.YtgofmnhfajmbfaaGreatDoorSpC
import Derived.Test.YtgofmnhfajmbfaaGreatDoorGeomA
import Derived.Lib.IndexLaws
namespace Go.Proofs.YtgofmnhfajmbfaaGreatDoor
open Go Go.RowKit Txt Sp

/-- What a side reads, with a code. -/
theorem read_has {S : Sp.Side} (hS : S.Ok) {i : Int} (h : S.disk.has i) : (S.disk.get i).size = 64 := by
  refine hS.sect _ ?_
  unfold Sp.Disk.get
  have hlt : i.toNat < S.disk.l.length := by unfold Sp.Disk.has at h; omega
  rw [List.getD_eq_getElem?_getD, List.getElem?_eq_getElem hlt]
  exact List.getElem_mem hlt
section
set_option maxHeartbeats 2000000
set_option maxRecDepth 20000 in
theorem softRead_any {w : World} {base B Bd : Nat} {S : Sp.Side} {D : Nat → Prop} (h : SideAt w base B Bd S D) (hS : S.Ok) (i : Int) :
    Calls Tryz.prog 64 #[pt B, .int .i64 i] w fun e w' => e = .returned (.tuple #[.string (S.read i), .int .i64 (S.readC i)]) ∧ Below w.heap.size w w' := by
  obtain ⟨⟨Bc, fm, Dd, h1, h2, -, -, -, -, hd, -⟩, -, -⟩ := h
  have hr := diskRead_any hd i
  have hvw := fun hi : S.disk.has i => depsView_any h2 hS.deps i (S.disk.get i) (read_has hS hi)
  have c0 := cellOf (k := 0) h1 rfl
  have c1 := cellOf (k := 1) h1 rfl
  unfold Sp.Disk.read Sp.Disk.readC at hr
  unfold Sp.Side.read Sp.Side.readC Sp.Disk.readC
  unfold pt at c0 c1 hr hvw ⊢
  by_cases hi : S.disk.has i
  · have hv := hvw hi
    rw [if_pos hi, if_pos hi] at hr
    rw [if_pos hi, if_pos hi]
    obtain ⟨x, hx⟩ : ∃ x, S.disk.get i = x := ⟨_, rfl⟩
    rw [hx] at hr hv ⊢
    obtain ⟨y, hy⟩ : ∃ y, S.deps.view i x = y := ⟨_, rfl⟩
    rw [hy] at hv ⊢
    have HR := Lib.hid hr
    have HV := Lib.hid hv
    clear hr hv
    clear hvw hx hy h1 h2 hd hS hi
    go_enter Tryz.func64, Tryz.ntmps64
    go_wp2_with fail
    refine HR.out.mono ?_
    rintro e w1 ⟨rfl, hw1⟩
    subst hw1
    go_wp2_with fail
    refine HV.out.mono ?_
    rintro e w2 ⟨rfl, hb2⟩
    have HB2 := Lib.hid hb2
    clear hb2
    go_wp2
    go_ret2
    exact ⟨rfl, HB2.out⟩
  · rw [if_neg hi, if_neg hi] at hr
    rw [if_neg hi, if_neg hi]
    have HR := Lib.hid hr
    clear hr
    clear hvw h1 h2 hd hS hi
    go_enter Tryz.func64, Tryz.ntmps64
    go_wp2_with fail
    refine HR.out.mono ?_
    rintro e w1 ⟨rfl, hw1⟩
    subst hw1
    go_wp2
    go_ret2
    exact ⟨rfl, Below.refl _ _⟩
/-- Places of changes alone. -/
def ChgK (w : World) (K : Nat → Prop) : Prop := ∀ j, K j → ∃ cs fr e, w.heap[j]? = some (.cells cs e fr) ∧ (e = 207 ∨ e = 209)
theorem ChgK.not {w : World} {K : Nat → Prop} (h : ChgK w K) {k : Nat} {cs : Array Value} {e : TypeId} {fr : Nat × Nat} (hk : w.heap[k]? = some (.cells cs e fr)) (h1 : e ≠ 207) (h2 : e ≠ 209) : ¬ K k := fun hK => by
  obtain ⟨cs', fr', e', h', he⟩ := h k hK
  rw [hk] at h'
  cases h'
  exact he.elim h1 h2
theorem ChgK.notMap {w : World} {K : Nat → Prop} (h : ChgK w K) {α : Type} {enc : α → Value} {k : Nat} {l : List (Int × α)} (hm : IM.MapAt enc w k l) : ¬ K k := fun hK => by
  obtain ⟨cs', fr', e', h', _⟩ := h k hK
  obtain ⟨o, ho, es, cl, rfl, _⟩ := hm
  rw [ho] at h'
  cases h'
theorem DiskAt.turnK {w w' : World} {base B : Nat} {d : Sp.Disk} {D K : Nat → Prop} (h : DiskAt w base B d D) (hT : Turn K w w') (hK : ChgK w K) : DiskAt w' base B d D := by
  obtain ⟨⟨v, wm, h1, h2, h3, h4, h5, h6⟩, ho, hl⟩ := h
  refine ⟨⟨v, wm, hT.heap h1 (hK.not h1 (by decide) (by decide)), h2.turn hT (fun k hv => ?_), ?_, h4, h5, h6⟩, ho, hl⟩
  · obtain ⟨_, ⟨rfl, _⟩ | ⟨g, cap, cur, rfl, hg, hh, _⟩⟩ := h2
    · cases hv
    · cases hv
      exact hK.not hh (by decide) (by decide)
  · have hn := hK.notMap h3
    obtain ⟨o, h3, h3'⟩ := h3
    exact ⟨o, hT.heap h3 hn, h3'⟩
/-- What Change leaves. -/
def ChangePost (w : World) (base B Bd : Nat) (S : Sp.Side) (D : Nat → Prop) (i off : Int) (b : ByteArray) (ahead : List Int) (e : Ending) (w' : World) : Prop :=
  e = .returned (.tuple #[.int .i64 (S.changeN i off b ahead), .int .i64 (S.changeC i off b ahead)]) ∧
  SideAt w' base B Bd (S.change i off b ahead) (fun j => D j ∨ (w.heap.size ≤ j ∧ j < w'.heap.size)) ∧ ∃ K, (∀ j, K j → D j) ∧ Turn K w w'
theorem SideAt.mono {w : World} {base B Bd : Nat} {S : Sp.Side} {D D' : Nat → Prop} (h : SideAt w base B Bd S D) (hd : ∀ k, D k → D' k) : SideAt w base B Bd S D' := by
  obtain ⟨⟨Bc, fm, Dd, h1, h2, h3, h4, h5, h9, h6, h6'⟩, h7, h8⟩ := h
  exact ⟨⟨Bc, fm, Dd, h1, h2.mono hd, h3, h4, hd _ h5, h9, h6, fun k hk => (h6' k hk).imp_left (hd k)⟩, hd _ h7, h8⟩
theorem depsAdd_any {w : World} {base B : Nat} {d : Sp.Deps} {D : Nat → Prop} (h : DepsAt w base B d D) (hok : d.Ok) (hlast : d.last < 1000000000) (i off : Int) (b : ByteArray) (v : Value) (ahead : List Int) (hv : Ints w v ahead) (hal : ahead.length ≤ 100000) :
    Calls Tryz.prog 242 #[pt B, .int .i64 i, .agg #[.int .i64 off, .string b], v] w (AddPost w base B d D i off b ahead) := by
  by_cases hr : 0 ≤ i ∧ i < 2048 ∧ inside off b.size
  · exact depsAdd_in h hok hlast i off b v ahead hv hal hr
  · exact depsAdd_range h i off b v ahead hr
theorem change_add {w w' : World} {base B Bd Bc fm : Nat} {S : Sp.Side} {D : Nat → Prop} {i off : Int} {b : ByteArray} {ahead : List Int} (hi : S.disk.has i) (h1 : w.heap[B]? = some (softO Bc Bd S.node S.epoch fm)) (h3 : IM.MapAt intV w fm S.fly) (h4 : base ≤ fm) (h5 : D fm) {Dd : Nat → Prop} (hd : DiskAt w 0 Bd S.disk Dd) (hd' : ∀ k, Dd k → D k ∨ k < base) (h6 : ¬ Dd fm) (ho : D B) (hl : base ≤ B)
    {w0 : World} {e : Ending} (hb : Below w0.heap.size w0 w) (h : AddPost w base Bc S.deps D i off b ahead e w') : ChangePost w0 base B Bd S D i off b ahead e w' := by
  obtain ⟨he, hda, K, hK, hT⟩ := h
  have hCK : ChgK w K := fun j hj => (hK j hj).2
  have hcc : S.changeC i off b ahead = S.deps.addC i off b ahead := if_pos hi
  have hD : ∀ k, (D k ∨ (w.heap.size ≤ k ∧ k < w'.heap.size)) → D k ∨ (w0.heap.size ≤ k ∧ k < w'.heap.size) := fun k hk => hk.imp_right fun h => ⟨Nat.le_trans hb.size h.1, h.2⟩
  refine ⟨?_, ?_, K, fun j hj => (hK j hj).1, ?_⟩
  · rw [he, hcc]
    unfold Sp.Side.changeN
    rw [hcc]
  · have hside : SideAt w' base B Bd ⟨S.disk, S.deps.add i off b ahead, S.node, S.epoch, S.fly⟩ (fun j => D j ∨ (w0.heap.size ≤ j ∧ j < w'.heap.size)) := by
      have hn := hCK.notMap h3
      refine ⟨⟨Bc, fm, Dd, hT.heap h1 (hCK.not h1 (by decide) (by decide)), hda.mono hD, ?_, h4, Or.inl h5, h6, hd.turnK hT hCK, fun k hk => (hd' k hk).imp_left Or.inl⟩, Or.inl ho, hl⟩
      obtain ⟨o, h3, h3'⟩ := h3
      exact ⟨o, hT.heap h3 hn, h3'⟩
    unfold Sp.Side.change
    rw [hcc]
    by_cases h0 : S.deps.addC i off b ahead = 0
    · rw [if_pos h0]
      exact hside
    · rw [if_neg h0]
      have hadd : S.deps.add i off b ahead = S.deps := by unfold Sp.Deps.add; rw [if_neg h0]
      rw [hadd] at hside
      exact hside
  · exact (Turn.of_below (K := K) hb).trans hT (fun _ _ h => h) (fun _ _ h => h)
set_option maxRecDepth 20000 in
theorem softChange_any {w : World} {base B Bd : Nat} {S : Sp.Side} {D : Nat → Prop} (h : SideAt w base B Bd S D) (hS : S.Ok) (hlast : S.deps.last < 1000000000) (i off : Int) (b : ByteArray) (v : Value) (ahead : List Int) (hv : Ints w v ahead) (hal : ahead.length ≤ 100000) :
    Calls Tryz.prog 176 #[pt B, .int .i64 i, .agg #[.int .i64 off, .string b], v] w (ChangePost w base B Bd S D i off b ahead) := by
  have hall := h
  obtain ⟨⟨Bc, fm, Dd, h1, h2, h3, h4, h5, h6, hd, hd'⟩, ho, hl⟩ := h
  obtain ⟨W1, hW1⟩ : ∃ W, w.alloc (.cells #[.int .i64 off, .string b] 167) = W := ⟨_, rfl⟩
  have hb1 : Below w.heap.size w W1 := by rw [← hW1]; exact bl2 _
  have hz1 : W1.heap[w.heap.size]? = some (.cells #[.int .i64 off, .string b] 167 (0, 0)) := by rw [← hW1]; exact heapNew w _
  have hr := diskRead_any (hd.below hb1) i
  have h11 := heapOld hb1 h1
  have c0 := cellOf (k := 0) h11 rfl
  have c1 := cellOf (k := 1) h11 rfl
  have x0 := cellOf (k := 0) hz1 rfl
  have x1 := cellOf (k := 1) hz1 rfl
  unfold Sp.Disk.read Sp.Disk.readC at hr
  unfold pt at c0 c1 hr ⊢
  by_cases hi : S.disk.has i
  · rw [if_pos hi, if_pos hi] at hr
    obtain ⟨x, hx⟩ : ∃ x, S.disk.get i = x := ⟨_, rfl⟩
    rw [hx] at hr
    have hbd : Below w.heap.size w W1.drew := blD hb1
    have hadd := depsAdd_any (h2.below hbd) hS.deps hlast i off b v ahead (hv.below hbd) hal
    have hfin := fun (e : Ending) (w' : World) (hA : AddPost W1.drew base Bc S.deps D i off b ahead e w') => change_add hi (heapOld hbd h1) (h3.old (hbd.block fm h3.lt)) h4 h5 (hd.below hbd) hd' h6 ho hl hbd hA
    have hS3 : ∀ w', (∃ K, (∀ j, K j → ∃ cs fr e, W1.drew.heap[j]? = some (.cells cs e fr) ∧ (e = 207 ∨ e = 209)) ∧ Turn K W1.drew w') → (w'.cell? ⟨B, 0, none⟩ = some (.pointer (some ⟨Bc, 0, none⟩)) ∧ w'.cell? ⟨w.heap.size, 0, none⟩ = some (.int .i64 off) ∧ w'.cell? ⟨w.heap.size, 1, none⟩ = some (.string b)) := by
      rintro w' ⟨K, hK, hT⟩
      have hCK : ChgK W1.drew K := hK
      have g1 := hT.heap (heapOld hbd h1) (hCK.not (heapOld hbd h1) (by decide) (by decide))
      have g2 := hT.heap (show W1.drew.heap[w.heap.size]? = _ from hz1) (hCK.not (show W1.drew.heap[w.heap.size]? = _ from hz1) (by decide) (by decide))
      exact ⟨cellOf (k := 0) g1 rfl, cellOf (k := 0) g2 rfl, cellOf (k := 1) g2 rfl⟩
    obtain ⟨Q, hQ⟩ : ∃ Q, ChangePost w base B Bd S D i off b ahead = Q := ⟨_, rfl⟩
    rw [hQ] at hfin ⊢
    unfold pt at hadd
    have hSd : (W1.drew.cell? ⟨B, 0, none⟩ = some (.pointer (some ⟨Bc, 0, none⟩)) ∧ W1.drew.cell? ⟨w.heap.size, 0, none⟩ = some (.int .i64 off) ∧ W1.drew.cell? ⟨w.heap.size, 1, none⟩ = some (.string b)) := ⟨c0, x0, x1⟩
    have HR := Lib.hid hr
    have HADD := Lib.hid hadd
    have HFIN := Lib.hid hfin
    have HS3 := Lib.hid hS3
    clear hr hadd hfin hS3
    clear h1 h2 h3 hd hd' h6 hS hi hall hz1 h11 hv hx hbd hb1 hQ
    go_enter Tryz.func176, Tryz.ntmps176
    go_wp2_with fail
    refine HR.out.mono ?_
    rintro e w1 ⟨rfl, hw1⟩
    subst hw1
    go_wp2_with fail
    refine wp_region_held_drew (S := (fun W => W.cell? ⟨B, 0, none⟩ = some (.pointer (some ⟨Bc, 0, none⟩)) ∧ W.cell? ⟨w.heap.size, 0, none⟩ = some (.int .i64 off) ∧ W.cell? ⟨w.heap.size, 1, none⟩ = some (.string b))) (by kernel_rfl) (by first | trivial | assumption) (fun hHeld => ?_)
    refine wpAnyH_take (i := 0) (v := ?_) rfl (by kernel_rfl) (by kernel_rfl) (by kernel_rfl) (fun _ _ _ h => h) (Or.inl ⟨by rfl, ?_⟩) hHeld ?_
    rotate_left
    · (intro w hSw; first | (go_simp; done) | (go_simp; with_reducible rfl))
    simp only [Act.put, List.setIfInBounds_toArray, List.set_cons_zero, List.set_cons_succ, List.getElem_toArray, List.getElem_cons_zero]
    refine wpAnyH_take (i := 1) (v := ?_) rfl (by kernel_rfl) (by kernel_rfl) (by kernel_rfl) (fun _ _ _ h => h) (Or.inl ⟨by rfl, ?_⟩) hHeld ?_
    rotate_left
    · (intro w hSw; first | (go_simp; done) | (go_simp; with_reducible rfl))
    simp only [Act.put, List.setIfInBounds_toArray, List.set_cons_zero, List.set_cons_succ, List.getElem_toArray, List.getElem_cons_zero, List.getElem_cons_succ]
    refine wpAnyH_take (i := 2) (v := ?_) rfl (by kernel_rfl) (by kernel_rfl) (by kernel_rfl) (fun _ _ _ h => h) (Or.inl ⟨by rfl, ?_⟩) hHeld ?_
    rotate_left
    · (intro w hSw; first | (go_simp; done) | (go_simp; with_reducible rfl))
    simp only [Act.put, List.setIfInBounds_toArray, List.set_cons_zero, List.set_cons_succ, List.getElem_toArray, List.getElem_cons_zero, List.getElem_cons_succ]
    refine wpAnyH_take (i := 3) (v := ?_) rfl (by kernel_rfl) (by kernel_rfl) (by kernel_rfl) (fun _ _ _ h => h) (Or.inl ⟨by rfl, ?_⟩) hHeld ?_
    rotate_left
    · (intro w hSw; first | (go_simp; done) | (go_simp; with_reducible rfl))
    simp only [Act.put, List.setIfInBounds_toArray, List.set_cons_zero, List.set_cons_succ, List.getElem_toArray, List.getElem_cons_zero, List.getElem_cons_succ]
    refine wpAnyH_take (i := 4) (v := ?_) rfl (by kernel_rfl) (by kernel_rfl) (by kernel_rfl) (fun _ _ _ h => h) (Or.inl ⟨by rfl, ?_⟩) hHeld ?_
    rotate_left
    · (intro w hSw; first | (go_simp; done) | (go_simp; with_reducible rfl))
    simp only [Act.put, List.setIfInBounds_toArray, List.set_cons_zero, List.set_cons_succ, List.getElem_toArray, List.getElem_cons_zero, List.getElem_cons_succ]
    refine wpAnyH_take (i := 5) (v := ?_) rfl (by kernel_rfl) (by kernel_rfl) (by kernel_rfl) (fun _ _ _ h => h) (Or.inl ⟨by rfl, ?_⟩) hHeld ?_
    rotate_left
    · (intro w hSw; first | (go_simp; done) | (go_simp; with_reducible rfl))
    simp only [Act.put, List.setIfInBounds_toArray, List.set_cons_zero, List.set_cons_succ, List.getElem_toArray, List.getElem_cons_zero, List.getElem_cons_succ]
    refine wpAnyH_take (i := 6) (v := ?_) rfl (by kernel_rfl) (by kernel_rfl) (by kernel_rfl) (fun _ _ _ h => h) (Or.inl ⟨by rfl, ?_⟩) hHeld ?_
    rotate_left
    · (intro w hSw; first | (go_simp; done) | (go_simp; with_reducible rfl))
    simp only [Act.put, List.setIfInBounds_toArray, List.set_cons_zero, List.set_cons_succ, List.getElem_toArray, List.getElem_cons_zero, List.getElem_cons_succ]
    refine wpAnyH_ready (rs := [7]) (by kernel_rfl) (by simp) ?_
    refine AllReadyH.cons rfl (fun K hK => ?_) AllReadyH.nil
    try simp only [List.getElem_toArray, List.getElem_cons_zero, List.getElem_cons_succ]
    go_simp
    refine HADD.out.mono ?_
    rintro e w3 hA
    have HF := Lib.hid (HFIN.out _ _ hA)
    obtain ⟨he, -, K', hK', hT'⟩ := hA
    obtain ⟨X, hX⟩ : ∃ X : Int, (if S.deps.addC i off b ahead = 0 then (S.deps.last : Int) + 1 else 0) = X := ⟨_, rfl⟩
    obtain ⟨Y, hY⟩ : ∃ Y : Int, S.deps.addC i off b ahead = Y := ⟨_, rfl⟩
    rw [hX, hY] at he
    clear hX hY
    subst he
    have hs3 := HS3.out w3 ⟨K', fun j hj => (hK' j hj).2, hT'⟩
    clear hK' hT'
    try simp only
    refine hK.out _ _ ?hkS (fun hHeld => ?_)
    case hkS =>
      exact hs3
    clear hK K
    try simp only [Act.put, List.setIfInBounds_toArray, List.set_cons_zero, List.set_cons_succ]
    refine wpAnyH_take (i := 8) (v := ?_) rfl (by kernel_rfl) (by kernel_rfl) (by kernel_rfl) (fun _ _ _ h => h) (Or.inl ⟨by rfl, ?_⟩) hHeld ?_
    rotate_left
    · (intro w hSw; first | (go_simp; done) | (go_simp; with_reducible rfl))
    simp only [Act.put, List.setIfInBounds_toArray, List.set_cons_zero, List.set_cons_succ, List.getElem_toArray, List.getElem_cons_zero, List.getElem_cons_succ]
    refine wpAnyH_take (i := 9) (v := ?_) rfl (by kernel_rfl) (by kernel_rfl) (by kernel_rfl) (fun _ _ _ h => h) (Or.inl ⟨by rfl, ?_⟩) hHeld ?_
    rotate_left
    · (intro w hSw; first | (go_simp; done) | (go_simp; with_reducible rfl))
    simp only [Act.put, List.setIfInBounds_toArray, List.set_cons_zero, List.set_cons_succ, List.getElem_toArray, List.getElem_cons_zero, List.getElem_cons_succ]
    refine wpAnyH_take (i := 10) (v := ?_) rfl (by kernel_rfl) (by kernel_rfl) (by kernel_rfl) (fun _ _ _ h => h) (Or.inl ⟨by rfl, ?_⟩) hHeld ?_
    rotate_left
    · (intro w hSw; first | (go_simp; done) | (go_simp; with_reducible rfl))
    simp only [Act.put, List.setIfInBounds_toArray, List.set_cons_zero, List.set_cons_succ, List.getElem_toArray, List.getElem_cons_zero, List.getElem_cons_succ]
    refine wpAnyH_take (i := 11) (v := ?_) rfl (by kernel_rfl) (by kernel_rfl) (by kernel_rfl) (fun _ _ _ h => h) (Or.inl ⟨by rfl, ?_⟩) hHeld ?_
    rotate_left
    · (intro w hSw; first | (go_simp; done) | (go_simp; with_reducible rfl))
    simp only [Act.put, List.setIfInBounds_toArray, List.set_cons_zero, List.set_cons_succ, List.getElem_toArray, List.getElem_cons_zero, List.getElem_cons_succ]
    refine wpAnyH_done (by kernel_rfl) ?_ _
    clear hHeld hs3
    go_wp2
    first | exact HF.out | (go_ret2; exact HF.out)
  · rw [if_neg hi, if_neg hi] at hr
    have hcc : S.changeC i off b ahead = 1 := if_neg hi
    have HP : Hid (∀ w', Below w.heap.size w w' → ChangePost w base B Bd S D i off b ahead (.returned (.tuple #[.int .i64 0, .int .i64 1])) w') := fun w' hb => by
      refine ⟨?_, ?_, fun _ => False, fun _ h => h.elim, Turn.of_below hb⟩
      · unfold Sp.Side.changeN
        rw [hcc]
        rfl
      · have e : S.change i off b ahead = S := by unfold Sp.Side.change; rw [if_neg (by rw [hcc]; decide)]
        rw [e]
        exact (hall.below hb).mono (fun k hk => Or.inl hk)
    have HB1 := Lib.hid hb1
    have HR := Lib.hid hr
    clear hr
    clear h1 h2 h3 hd hd' h6 hS hi hall hcc hz1 h11 hb1 hv
    go_enter Tryz.func176, Tryz.ntmps176
    go_wp2_with fail
    refine HR.out.mono ?_
    rintro e w1 ⟨rfl, hw1⟩
    subst hw1
    go_wp2
    first | exact HP.out _ HB1.out | (go_ret2; exact HP.out _ HB1.out)
end
end Go.Proofs.YtgofmnhfajmbfaaGreatDoor

namespace Go.Proofs.YtgofmnhfajmbfaaGreatDoor
open Go Go.RowKit Txt Sp

theorem eql_disk_nil (w : World) (a : Addr) : (binOp .eql 33 (.pointer (some a)) (.pointer none)).run Tryz.prog w = .ok (.bool false) w := by
  have hp : Tryz.prog.underlying 33 = some (.pointer 198) := by kernel_rfl
  have h : ∀ d : Nat, (Op.equalIn (d + 1) 33 (.pointer (some a)) (.pointer none)).run Tryz.prog w = .ok false w := fun d => by
    simp [Op.equalIn, run_underlying hp]
  simp only [binOp]
  simp [Op.equal, Op.maxDepth, h 9999]
theorem DepsAt.lower {w : World} {base base' B : Nat} {d : Sp.Deps} {D : Nat → Prop} (h : DepsAt w base' B d D) (hb : base ≤ base') (h0 : d.l = []) : DepsAt w base B d D := by
  obtain ⟨⟨v, ps, h1, h2, h3, h4, h5⟩, ho, hl⟩ := h
  exact ⟨⟨v, ps, h1, h2, h3.mono hb, h4, fun x hx => by
    rw [h0, List.map_eq_nil_iff] at h2
    rw [h2] at hx
    cases hx⟩, ho, Nat.le_trans hb hl⟩
section
set_option maxHeartbeats 2000000
set_option maxRecDepth 20000 in
/-- A side of a disk; D: the disk's blocks. -/
theorem softNew_any {w : World} {base Bd : Nat} {d : Sp.Disk} {D : Nat → Prop} (h : DiskAt w base Bd d D) (hbase : base ≤ w.heap.size) (hdlt : ∀ j, D j → j < w.heap.size) (node epoch : Int) (hn : 0 ≤ node ∧ node < 2) (he : 0 ≤ epoch ∧ epoch ≤ 4294967295) :
    Calls Tryz.prog 29 #[pt Bd, .int .i64 node, .int .i64 epoch] w fun e w' => ∃ B D', e = .returned (.tuple #[pt B, .int .i64 0]) ∧ SideAt w' base B Bd ⟨d, ⟨[], 0⟩, node, epoch, []⟩ D' ∧ Below w.heap.size w w' ∧ (∀ j, D' j → D j ∨ (w.heap.size ≤ j ∧ j < w'.heap.size)) := by
  have q1 : decide (node < 0) = false := decide_eq_false (by omega)
  have q2 : decide (node ≥ 2) = false := decide_eq_false (by omega)
  have q3 : decide (epoch < 0) = false := decide_eq_false (by omega)
  have q4 : decide (epoch > 4294967295) = false := decide_eq_false (by omega)
  have hq := eql_disk_nil
  have hmm := @run_makeMap Tryz.prog
  have hdn := fun W : World => depsNew_any W
  have HD := Lib.hid h
  have HBa := Lib.hid hbase
  have HDlt := Lib.hid hdlt
  unfold pt at hdn ⊢
  have HDN := Lib.hid hdn
  clear hdn
  clear h hbase hdlt hn he
  go_enter Tryz.func29, Tryz.ntmps29
  go_wp2_with fail
  refine (HDN.out _).mono ?_
  rintro e w1 ⟨Bc, Dc, rfl, hda, hb1, hdl⟩
  have HA := Lib.hid hda
  have HB1 := Lib.hid hb1
  have HDl := Lib.hid hdl
  clear hda hb1 hdl
  go_wp2
  go_ret2
  have hz : ((w1.alloc (.map #[] 0)).alloc (softO Bc Bd node epoch w1.heap.size)).heap[w1.heap.size + 1]? = some (softO Bc Bd node epoch w1.heap.size) := by
    have := heap_alloc_new (w1.alloc (.map #[] 0)) (softO Bc Bd node epoch w1.heap.size)
    rw [show (w1.alloc (.map #[] 0)).heap.size = w1.heap.size + 1 by simp] at this
    exact this
  have hb : Below w1.heap.size w1 ((w1.alloc (.map #[] 0)).alloc (softO Bc Bd node epoch w1.heap.size)) := bl1 (bl1 (Below.refl _ _) _) _
  have hm : ((w1.alloc (.map #[] 0)).alloc (softO Bc Bd node epoch w1.heap.size)).heap[w1.heap.size]? = some (.map #[] 0) := heapOld (bl1 (Below.refl _ _) _) (heap_alloc_new w1 _)
  have hs : ((w1.alloc (.map #[] 0)).alloc (softO Bc Bd node epoch w1.heap.size)).heap.size = w1.heap.size + 2 := by simp
  have hsz := HB1.out.size
  have hbb := HBa.out
  refine ⟨w1.heap.size + 1, fun j => D j ∨ Dc j ∨ j = w1.heap.size ∨ j = w1.heap.size + 1, rfl, ⟨⟨Bc, w1.heap.size, D, hz, ((HA.out.below hb).lower hbb rfl).mono (fun k hk => Or.inr (Or.inl hk)), ⟨_, hm, IM.IsMap.new⟩, by omega, Or.inr (Or.inr (Or.inl rfl)), (fun hd => by have := HDlt.out _ hd; omega), (HD.out.below (blN HB1.out hb)).lower, fun k hk => Or.inl (Or.inl hk)⟩, Or.inr (Or.inr (Or.inr rfl)), by omega⟩, blN HB1.out hb, fun j hj => ?_⟩
  rcases hj with hj | hj | rfl | rfl
  · exact Or.inl hj
  · have := HDl.out j hj
    exact Or.inr ⟨this.1, by show j < ((w1.alloc (.map #[] 0)).alloc (softO Bc Bd node epoch w1.heap.size)).heap.size; omega⟩
  · exact Or.inr ⟨hsz, by show _ < ((w1.alloc (.map #[] 0)).alloc (softO Bc Bd node epoch w1.heap.size)).heap.size; omega⟩
  · exact Or.inr ⟨by omega, by show _ < ((w1.alloc (.map #[] 0)).alloc (softO Bc Bd node epoch w1.heap.size)).heap.size; omega⟩
end
end Go.Proofs.YtgofmnhfajmbfaaGreatDoor

namespace Go.Proofs.YtgofmnhfajmbfaaGreatDoor
open Go Go.RowKit Txt Sp

section
set_option maxHeartbeats 2000000
set_option maxRecDepth 20000 in
theorem mset_any (w : World) (n p : Int) (b : Bool) (h : manyC n p = 0) :
    Calls Tryz.prog 253 #[.int .i64 n, .int .i64 p, .bool b] w fun e w' => e = .returned (.tuple #[.agg #[.int .i64 p, .string (if b then oneB else zeroB)], .int .i64 0]) ∧ Below w.heap.size w w' := by
  have hm := fun W : World => mmany_any W n p
  rw [h] at hm
  have HM := Lib.hid hm
  clear hm
  clear h
  cases b with
  | true =>
    show Calls _ _ _ _ fun e w' => e = .returned (.tuple #[.agg #[.int .i64 p, .string ⟨#[1]⟩], .int .i64 0]) ∧ Below w.heap.size w w'
    go_enter Tryz.func253, Tryz.ntmps253
    go_wp2_with fail
    refine (HM.out _).mono ?_
    rintro e w1 ⟨rfl, hw1⟩
    subst hw1
    go_wp2
    refine bodyPost_ret (v := .tuple #[.agg #[.int .i64 p, .string ⟨#[1]⟩], .int .i64 0]) (by simp [results, Tryz.results253, go_sem]) rfl ⟨rfl, bl1 (bl2 _) _⟩
  | false =>
    show Calls _ _ _ _ fun e w' => e = .returned (.tuple #[.agg #[.int .i64 p, .string ⟨#[0]⟩], .int .i64 0]) ∧ Below w.heap.size w w'
    go_enter Tryz.func253, Tryz.ntmps253
    go_wp2_with fail
    refine (HM.out _).mono ?_
    rintro e w1 ⟨rfl, hw1⟩
    subst hw1
    go_wp2
    refine bodyPost_ret (v := .tuple #[.agg #[.int .i64 p, .string ⟨#[0]⟩], .int .i64 0]) (by simp [results, Tryz.results253, go_sem]) rfl ⟨rfl, bl1 (bl2 _) _⟩
end
end Go.Proofs.YtgofmnhfajmbfaaGreatDoor

namespace Go.Proofs.YtgofmnhfajmbfaaGreatDoor
open Go Go.RowKit Txt Sp

section
set_option maxHeartbeats 2000000
set_option maxRecDepth 20000 in
theorem mask_any (w : World) (s : ByteArray) (n p : Int) (h : mapC s n = 0) :
    Calls Tryz.prog 175 #[.string s, .int .i64 n, .int .i64 p] w fun e w' => e = .returned (.int .i64 (manyC n p)) ∧ Below w.heap.size w w' := by
  have hc := fun W : World => mcheck_any W s n
  have hm := fun W : World => mmany_any W n p
  rw [h] at hc
  obtain ⟨c, hcc⟩ : ∃ c, manyC n p = c := ⟨_, rfl⟩
  rw [hcc] at hm ⊢
  have HC := Lib.hid hc
  have HM := Lib.hid hm
  clear hc hm
  clear h hcc
  go_enter Tryz.func175, Tryz.ntmps175
  go_wp2_with fail
  refine (HC.out _).mono ?_
  rintro e w1 ⟨rfl, hb1⟩
  have HB1 := Lib.hid (blN (Below.refl _ _) hb1)
  clear hb1
  go_wp2_with fail
  refine (HM.out _).mono ?_
  rintro e w2 ⟨rfl, hw2⟩
  subst hw2
  go_wp2
  go_ret
  exact ⟨rfl, HB1.out⟩
end
end Go.Proofs.YtgofmnhfajmbfaaGreatDoor

namespace Go.Proofs.YtgofmnhfajmbfaaGreatDoor
open Go Go.RowKit Txt Sp

def blkAt (g : Sp.Geom) (k p : Int) : Int × Int := if g.within k g.groups = 0 then (if g.within p g.blocks = 0 then (blockNo g k p, 0) else (0, g.within p g.blocks)) else (0, g.within k g.groups)
def placeAt (g : Sp.Geom) (s : Int) : Int × Int × Int := if blockC g s = 0 then ((g.kind s).2 / g.blocks, (g.kind s).2 % g.blocks, 0) else (0, 0, blockC g s)
theorem blkAt_in {g : Sp.Geom} (hg : g.ok) {k p : Int} (hk : 0 ≤ k ∧ k < g.groups) (hp : 0 ≤ p ∧ p < g.blocks) : blkAt g k p = (blockNo g k p, 0) := by
  unfold blkAt Geom.within
  rw [if_pos hg, if_pos hg, if_neg (show ¬ (k < 0 ∨ g.groups ≤ k) by omega), if_pos rfl, if_neg (show ¬ (p < 0 ∨ g.blocks ≤ p) by omega), if_pos rfl]
section
set_option maxHeartbeats 8000000
set_option maxRecDepth 20000 in
theorem gblock_any (w : World) (g : Sp.Geom) (k p : Int) : Calls Tryz.prog 128 #[gV g, .int .i64 k, .int .i64 p] w fun e w' => e = .returned (.tuple #[.int .i64 (blkAt g k p).1, .int .i64 (blkAt g k p).2]) ∧ Below w.heap.size w w' := by
  have hw := fun W : World => gwithin_any W g k g.groups
  have hv := fun W : World => gwithin_any W g p g.blocks
  obtain ⟨x, y, hx⟩ : ∃ x y, blkAt g k p = (x, y) := ⟨_, _, rfl⟩
  rw [hx]
  unfold blkAt at hx
  have hwz := fun h => (⟨(within_bd (g := g) (n := k) (m := g.groups) h).1, (within_bd (g := g) (n := k) (m := g.groups) h).2, Geom.first_bd (within_bd (g := g) (n := k) (m := g.groups) h).1 (k := k) (within_bd (g := g) (n := k) (m := g.groups) h).2.1 (by have h2 := (within_bd (g := g) (n := k) (m := g.groups) h).2.2; have h3 := (within_bd (g := g) (n := k) (m := g.groups) h).1.2.1; omega)⟩ : g.ok ∧ (0 ≤ k ∧ k < g.groups) ∧ 3 ≤ g.first k ∧ g.first k ≤ 403)
  have hpz := fun h => (within_bd (g := g) (n := p) (m := g.blocks) h).2
  have hf := fun (W : World) (hg : g.ok) (h0 : 0 ≤ k) (h4 : k ≤ 4) => gfirst_any W hg h0 h4
  unfold blockNo at hx
  obtain ⟨f, hf0⟩ : ∃ z, g.first k = z := ⟨_, rfl⟩
  rw [hf0] at hf hx hwz
  obtain ⟨ga, gb, gc⟩ := g
  simp only at hw hv hx hwz hpz hf
  obtain ⟨c, hc⟩ : ∃ c, (⟨ga, gb, gc⟩ : Sp.Geom).within k ga = c := ⟨_, rfl⟩
  obtain ⟨d, hd⟩ : ∃ c, (⟨ga, gb, gc⟩ : Sp.Geom).within p gc = c := ⟨_, rfl⟩
  rw [hc] at hw hx hwz
  rw [hd] at hv hx hpz
  unfold gV at hw hv hf ⊢
  obtain ⟨W0, hW0⟩ : ∃ W, w.alloc (.cells #[.int .i64 ga, .int .i64 gb, .int .i64 gc] 23) = W := ⟨_, rfl⟩
  have hk := g_keep hW0
  have HB0 := Lib.hid hk.1
  have HK := Lib.hid hk.2
  clear hk
  have HW := Lib.hid hw
  have HV := Lib.hid hv
  have HWZ := Lib.hid hwz
  have HPZ := Lib.hid hpz
  have HX := Lib.hid hx
  have HF := Lib.hid hf
  clear hw hv hwz hpz hx hf
  clear hc hd hf0
  obtain ⟨z0, z1, z2⟩ := HK.out W0 (Below.refl _ _)
  go_enter Tryz.func128, Tryz.ntmps128
  go_wp2_with fail
  clear z0 z1 z2
  refine (HW.out _).mono ?_
  rintro e w1 ⟨rfl, hb1⟩
  have HB1 : Hid (Below W0.heap.size W0 w1) := hb1
  clear hb1
  obtain ⟨z0, z1, z2⟩ := HK.out w1 HB1.out
  by_cases hc0 : c = 0
  rotate_left
  · have f1 : (c == 0) = false := beq_eq_false_iff_ne.2 hc0
    have f2 : (c != 0) = true := by simp [hc0]
    have hx := HX.out
    rw [if_neg hc0] at hx
    have HE := Lib.hid hx
    clear hc0 hx
    go_wp2
    go_ret2
    exact ⟨ret_two' HE.out, blN HB0.out HB1.out⟩
  obtain ⟨hg, ⟨h0, h1⟩, h2, h3⟩ := HWZ.out hc0
  have hx := HX.out
  rw [if_pos hc0] at hx
  have HX2 := Lib.hid hx
  have hf := fun W => HF.out W hg h0 (by have := hg.2.1; simp only at this; omega)
  subst hc0
  have hgb : 1 ≤ gb ∧ gb ≤ 32 := ⟨hg.2.2.1, hg.2.2.2.1⟩
  have hgc : 1 ≤ gc ∧ gc ≤ 64 := ⟨hg.2.2.2.2.1, hg.2.2.2.2.2⟩
  have HF := Lib.hid hf
  clear hf
  clear hx HWZ HX hg h1
  go_wp2_with fail
  clear z0 z1 z2
  refine (HV.out _).mono ?_
  rintro e w2 ⟨rfl, hb2⟩
  have HB2 : Hid (Below W0.heap.size W0 w2) := blN HB1.out hb2
  clear hb2
  obtain ⟨z0, z1, z2⟩ := HK.out w2 HB2.out
  by_cases hd0 : d = 0
  rotate_left
  · have f1 : (d == 0) = false := beq_eq_false_iff_ne.2 hd0
    have f2 : (d != 0) = true := by simp [hd0]
    have hx := HX2.out
    rw [if_neg hd0] at hx
    have HE := Lib.hid hx
    clear hd0 hx
    go_wp2
    go_ret2
    exact ⟨ret_two' HE.out, blN HB0.out HB2.out⟩
  have hp := HPZ.out hd0
  have hx := HX2.out
  rw [if_pos hd0] at hx
  have HE := Lib.hid hx
  subst hd0
  have e5 : IntKind.i64.wrap (f + 2) = f + 2 := IntWalk.i64_in _ (by omega)
  have e6 : IntKind.i64.wrap (f + 2 + gb) = f + 2 + gb := IntWalk.i64_in _ (by omega)
  have e7 : IntKind.i64.wrap (f + 2 + gb + p) = f + 2 + gb + p := IntWalk.i64_in _ (by omega)
  clear hx HX2 HPZ hgb hgc
  go_wp2_with fail
  go_region_held3 (fun W => W.cell? ⟨w.heap.size, 0, none⟩ = some (.int .i64 ga) ∧ W.cell? ⟨w.heap.size, 1, none⟩ = some (.int .i64 gb) ∧ W.cell? ⟨w.heap.size, 2, none⟩ = some (.int .i64 gc))
    ((refine HK.out _ ?_; repeat' first | with_reducible exact Below.refl _ _ | with_reducible exact HB2.out | with_reducible exact HB3.out | with_reducible refine blD ?_ | with_reducible refine bl1 ?_ _))
    (first
      | (go_at_call 110
         refine (HF.out _).mono ?_
         rintro e w3 ⟨rfl, hb3⟩
         have HB3 : Hid (Below W0.heap.size W0 w3) := blN (by repeat' first | with_reducible exact HB2.out | with_reducible refine blD ?_ | with_reducible refine bl1 ?_ _) hb3
         clear hb3
         simp only))
  go_wp2
  go_ret2
  exact ⟨ret_two' HE.out, blN HB0.out HB3.out⟩
set_option maxRecDepth 20000 in
theorem gplace_any (w : World) (g : Sp.Geom) (s : Int) : Calls Tryz.prog 93 #[gV g, .int .i64 s] w fun e w' => e = .returned (.tuple #[.int .i64 (placeAt g s).1, .int .i64 (placeAt g s).2.1, .int .i64 (placeAt g s).2.2]) ∧ Below w.heap.size w w' := by
  have hw := fun W : World => gwhat_any W g s
  obtain ⟨x, y, z, hx⟩ : ∃ x y z, placeAt g s = (x, y, z) := ⟨_, _, _, rfl⟩
  rw [hx]
  unfold placeAt at hx
  have hbc : blockC g s = if g.within s g.size = 0 then (if (g.kind s).1 = 6 then 0 else 1) else g.within s g.size := by
    unfold blockC Geom.within
    by_cases hg : g.ok
    · rw [if_pos hg, if_pos hg]
      by_cases h1 : s < 0 ∨ g.size ≤ s
      · rw [if_pos h1, if_pos h1]; rfl
      · rw [if_neg h1, if_neg h1, if_pos rfl]
    · rw [if_neg hg, if_neg hg]; rfl
  have hwh : g.what s = if g.within s g.size = 0 then ((g.kind s).1, (g.kind s).2, 0) else (0, 0, g.within s g.size) := rfl
  have hkb : g.within s g.size = 0 → (g.kind s).1 = 6 → 0 ≤ (g.kind s).2 ∧ (g.kind s).2 ≤ 9223372036854775807 ∧ 1 ≤ g.blocks := fun h1 h6 => by
    obtain ⟨hg, h2, h3⟩ := within_zero h1
    have hnf : ¬ s < g.first 0 := fun hf => by
      unfold Geom.kind at h6
      rw [if_pos hf] at h6
      split at h6
      · simp only at h6
        omega
      · exact absurd (show (2 : Int) = 6 from h6) (by decide)
    obtain ⟨d0, d1, d2, d3⟩ := group_bd hg hnf h3
    have hb := hg.2.2.2.2
    have hi := hg.2.2.1
    have hg4 := hg.2.1
    have hm : 0 ≤ (s - g.first 0) / g.long * g.blocks := Int.mul_nonneg d0 (by omega)
    have hm2 : (s - g.first 0) / g.long * g.blocks ≤ 4 * 64 := Int.mul_le_mul (by omega) (by omega) (by omega) (by omega)
    unfold Geom.kind at h6 ⊢
    rw [if_neg hnf] at h6 ⊢
    by_cases h7 : 2 + g.inodes ≤ (s - g.first 0) % g.long
    · rw [if_pos h7]
      have hl : g.long = 2 + g.inodes + g.blocks := rfl
      dsimp only
      omega
    · rw [if_neg h7] at h6
      split at h6
      · exact absurd (show (5 : Int) = 6 from h6) (by decide)
      · simp only at h6
        omega
  rw [hwh] at hw
  rw [hbc] at hx
  obtain ⟨c, hc⟩ : ∃ c, g.within s g.size = c := ⟨_, rfl⟩
  rw [hc] at hw hx hkb
  obtain ⟨k1, k2, hk⟩ : ∃ a b, g.kind s = (a, b) := ⟨_, _, rfl⟩
  rw [hk] at hw hx hkb
  obtain ⟨ga, gb, gc⟩ := g
  simp only at hx hkb
  unfold gV at hw ⊢
  obtain ⟨W0, hW0⟩ : ∃ W, w.alloc (.cells #[.int .i64 ga, .int .i64 gb, .int .i64 gc] 23) = W := ⟨_, rfl⟩
  have hk := g_keep hW0
  have HB0 := Lib.hid hk.1
  have HK := Lib.hid hk.2
  clear hk
  clear hwh hbc hc hk
  by_cases hc0 : c = 0
  rotate_left
  · rw [if_neg hc0] at hw
    rw [if_neg hc0, if_neg hc0] at hx
    have f1 : (c == 0) = false := beq_eq_false_iff_ne.2 hc0
    have f2 : (c != 0) = true := by simp [hc0]
    have HE := Lib.hid hx
    have HW := Lib.hid hw
    clear hw
    clear hx hkb hc0
    obtain ⟨z0, z1, z2⟩ := HK.out W0 (Below.refl _ _)
    go_enter Tryz.func93, Tryz.ntmps93
    go_wp2_with fail
    clear z0 z1 z2
    refine (HW.out _).mono ?_
    rintro e w1 ⟨rfl, hb1⟩
    have HB1 : Hid (Below W0.heap.size W0 w1) := hb1
    clear hb1
    obtain ⟨z0, z1, z2⟩ := HK.out w1 HB1.out
    go_wp2
    refine bodyPost_ret (v := .tuple #[.int .i64 0, .int .i64 0, .int .i64 c]) (by simp [results, Tryz.results93, go_sem]) rfl ?_
    exact ⟨ret_t HE.out, blN HB0.out HB1.out⟩
  subst hc0
  rw [if_pos rfl] at hw hx
  by_cases h6 : k1 = 6
  rotate_left
  · rw [if_neg h6, if_neg (by decide)] at hx
    have f1 : (k1 == 6) = false := beq_eq_false_iff_ne.2 h6
    have f2 : (k1 != 6) = true := by simp [h6]
    have HE := Lib.hid hx
    have HW := Lib.hid hw
    clear hw
    clear hx hkb h6
    obtain ⟨z0, z1, z2⟩ := HK.out W0 (Below.refl _ _)
    go_enter Tryz.func93, Tryz.ntmps93
    go_wp2_with fail
    clear z0 z1 z2
    refine (HW.out _).mono ?_
    rintro e w1 ⟨rfl, hb1⟩
    have HB1 : Hid (Below W0.heap.size W0 w1) := hb1
    clear hb1
    obtain ⟨z0, z1, z2⟩ := HK.out w1 HB1.out
    go_wp2
    refine bodyPost_ret (v := .tuple #[.int .i64 0, .int .i64 0, .int .i64 1]) (by simp [results, Tryz.results93, go_sem]) rfl ?_
    exact ⟨ret_t HE.out, blN HB0.out HB1.out⟩
  obtain ⟨a0, a1, a2⟩ := hkb rfl h6
  subst h6
  rw [if_pos rfl, if_pos rfl] at hx
  have hL0 : ¬ gc = 0 := by omega
  have hLb : (gc == 0) = false := beq_eq_false_iff_ne.2 hL0
  have e1 : k2.tdiv gc = k2 / gc := Int.tdiv_eq_ediv_of_nonneg a0
  have e2 : k2.tmod gc = k2 % gc := Int.tmod_eq_emod_of_nonneg a0
  have r0 : 0 ≤ k2 % gc := Int.emod_nonneg _ (by omega)
  have r1 : k2 % gc < gc := Int.emod_lt_of_pos _ (by omega)
  have r2 : 0 ≤ k2 / gc := Int.ediv_nonneg a0 (by omega)
  have r3 : k2 / gc ≤ k2 := Int.ediv_le_self _ a0
  have r4 : k2 % gc ≤ k2 := by
    have := Int.mul_ediv_add_emod k2 gc
    have := Int.mul_nonneg (show 0 ≤ gc by omega) r2
    omega
  obtain ⟨d, hd⟩ : ∃ d, k2 / gc = d := ⟨_, rfl⟩
  obtain ⟨r, hr⟩ : ∃ d, k2 % gc = d := ⟨_, rfl⟩
  rw [hd] at e1 hx r2 r3
  rw [hr] at e2 hx r0 r4
  have e3 : IntKind.i64.wrap d = d := IntWalk.i64_in _ (by omega)
  have e4 : IntKind.i64.wrap r = r := IntWalk.i64_in _ (by omega)
  have HE := Lib.hid hx
  have HW := Lib.hid hw
  clear hw
  clear hx hkb hd hr r1
  obtain ⟨z0, z1, z2⟩ := HK.out W0 (Below.refl _ _)
  go_enter Tryz.func93, Tryz.ntmps93
  go_wp2_with fail
  clear z0 z1 z2
  refine (HW.out _).mono ?_
  rintro e w1 ⟨rfl, hb1⟩
  have HB1 : Hid (Below W0.heap.size W0 w1) := hb1
  clear hb1
  obtain ⟨z0, z1, z2⟩ := HK.out w1 HB1.out
  go_wp2_with fail
  go_quiet (fail)
  rename_i nq
  have HB2 : Hid (Below W0.heap.size W0 (w1.drewN nq)) := below_drewN HB1.out _
  obtain ⟨w2, hw2⟩ : ∃ W, w1.drewN nq = W := ⟨_, rfl⟩
  rw [hw2] at HB2 ⊢
  clear z0 z1 z2 hw2
  go_wp2
  refine bodyPost_ret (v := .tuple #[.int .i64 d, .int .i64 r, .int .i64 0]) (by simp [results, Tryz.results93, go_sem]) rfl ?_
  exact ⟨ret_t HE.out, blN HB0.out HB2.out⟩
end
end Go.Proofs.YtgofmnhfajmbfaaGreatDoor

namespace Go.Proofs.YtgofmnhfajmbfaaGreatDoor
open Go Go.RowKit Txt Sp

theorem index_free {s : ByteArray} (hs : s.size = 64) {n : Nat} (hn : n ≤ 64) : Lib.indexByte (s.extract 0 n).data.toList 0 = match freeP s n with | some p => (p : Int) | none => -1 := by
  have hx : (s.extract 0 n).data.toList = s.data.toList.take n := by rw [Lib.extract_data]; simp
  have hl : s.data.toList.length = 64 := hs
  have hat : ∀ p, p < n → ((s.data.toList.take n)[p]? = some 0 ↔ (s.data.toList.getD p 0 == 0) = true) := fun p hp => by
    rw [List.getElem?_take, if_pos hp, List.getD_eq_getElem?_getD, List.getElem?_eq_getElem (by omega)]
    simp
  rw [hx]
  have hge := Lib.indexByte_ge (s.data.toList.take n) 0
  by_cases h1 : Lib.indexByte (s.data.toList.take n) 0 = -1
  · have hnone := Lib.indexByte_none h1
    have : freeP s n = none := by
      unfold freeP
      rw [List.find?_eq_none]
      intro p hp h
      have hp := List.mem_range.1 hp
      exact hnone p ((hat p hp).2 h)
    rw [this, h1]
  · obtain ⟨o, ho⟩ : ∃ o : Nat, Lib.indexByte (s.data.toList.take n) 0 = (o : Int) := ⟨(Lib.indexByte (s.data.toList.take n) 0).toNat, by omega⟩
    obtain ⟨h2, h3⟩ := Lib.indexByte_some ho
    have hlt : o < n := by
      have := (List.getElem?_eq_some_iff.1 h2).1
      rw [List.length_take] at this
      omega
    have : freeP s n = some o := by
      unfold freeP
      rw [List.find?_range_eq_some]
      refine ⟨(hat o hlt).1 h2, List.mem_range.2 hlt, fun j hj => ?_⟩
      have := h3 j hj
      rw [ne_eq, hat j (by omega)] at this
      simpa using this
    rw [this, ho]
section
set_option maxHeartbeats 2000000
set_option maxRecDepth 20000 in
theorem mtaken_any (w : World) (s : ByteArray) (n p : Int) (h : mapC s n = 0) (hp : 0 ≤ p ∧ p < n) :
    Calls Tryz.prog 95 #[.string s, .int .i64 n, .int .i64 p] w fun e w' => e = .returned (.tuple #[.bool (s.data.toList.getD p.toNat 0 == 1), .int .i64 0]) ∧ Below w.heap.size w w' := by
  have ha := fun W : World => mask_any W s n p h
  obtain ⟨h1, h2, h3, _⟩ := mapC_size h
  rw [show manyC n p = 0 from if_neg (by omega)] at ha
  obtain ⟨k, rfl⟩ : ∃ k : Nat, p = (k : Int) := ⟨p.toNat, by omega⟩
  have hk : k < s.size := by omega
  obtain ⟨b, hb⟩ : ∃ b, s.data.toList.getD k 0 = b := ⟨_, rfl⟩
  rw [Int.toNat_natCast, hb]
  have hbb : (s[k]'hk) = b := by
    rw [← hb, List.getD_eq_getElem?_getD, List.getElem?_eq_getElem (by show k < s.data.toList.length; rw [Array.length_toList]; exact hk)]
    rfl
  have HD : Hid (((b.toNat : Int) == 1) = (b == 1)) := by
    show _ = _
    by_cases hb1 : b = 1
    · subst hb1; rfl
    · have hne : ¬ (b.toNat : Int) = 1 := fun e => hb1 (UInt8.toNat_inj.1 (show b.toNat = (1 : UInt8).toNat by
        have e1 : (1 : UInt8).toNat = 1 := rfl
        omega))
      rw [beq_eq_false_iff_ne.2 hne, beq_eq_false_iff_ne.2 hb1]
  have HA := Lib.hid ha
  clear ha
  clear h h1 h2 hp hb
  go_enter Tryz.func95, Tryz.ntmps95
  go_wp2_with fail
  refine (HA.out _).mono ?_
  rintro e w1 ⟨rfl, hb1⟩
  have HB1 := Lib.hid (blN (Below.refl _ _) hb1)
  clear hb1
  go_wp2
  go_ret2
  refine ⟨?_, HB1.out⟩
  have hd := HD.out
  rw [← hd, ← hbb]
  rfl
set_option maxRecDepth 20000 in
theorem mfind_any (w : World) (s : ByteArray) (n : Int) (h : mapC s n = 0) :
    Calls Tryz.prog 191 #[.string s, .int .i64 n, .int .i64 0] w fun e w' => e = .returned (match freeP s n.toNat with | some p => .tuple #[.int .i64 (p : Int), .int .i64 0] | none => .tuple #[.int .i64 0, .int .i64 50]) ∧ Below w.heap.size w w' := by
  have ha := fun W : World => mask_any W s n 0 h
  obtain ⟨h1, h2, h3, _⟩ := mapC_size h
  rw [show manyC n 0 = 0 from if_neg (by omega)] at ha
  obtain ⟨k, rfl⟩ : ∃ k : Nat, n = (k : Int) := ⟨n.toNat, by omega⟩
  rw [Int.toNat_natCast]
  have hk : k ≤ 64 := by omega
  have hx := index_free h3 hk
  have hi := fun W : World => Tryz.strings_Index_one (s.extract 0 k) 0 W
  have hj := fun W : World => Tryz.strings_Index_one ByteArray.empty 0 W
  have hj0 : Lib.indexByte ByteArray.empty.data.toList 0 = -1 := rfl
  rw [hj0] at hj
  rw [hx] at hi
  cases hf : freeP s k with
  | some p =>
    rw [hf] at hi
    dsimp only at hi ⊢
    have hp := (freeP_some hf).1
    have HA := Lib.hid ha
    have HI := Lib.hid hi
    have HJ := Lib.hid hj
    clear ha hi hj
    clear h h1 h2 hx hj0 hf
    go_enter Tryz.func191, Tryz.ntmps191
    go_wp2_with fail
    refine (HA.out _).mono ?_
    rintro e w1 ⟨rfl, hb1⟩
    have HB1 := Lib.hid (blN (Below.refl _ _) hb1)
    clear hb1
    go_wp2_with fail
    refine (HI.out _).mono ?_
    rintro e w2 ⟨rfl, hw2⟩
    subst hw2
    go_wp2
    go_ret2
    first | exact ⟨rfl, HB1.out⟩ | exact ⟨by rw [Int.zero_add], HB1.out⟩
  | none =>
    rw [hf] at hi
    dsimp only at hi ⊢
    have HA := Lib.hid ha
    have HI := Lib.hid hi
    have HJ := Lib.hid hj
    clear ha hi hj
    clear h h1 h2 hx hj0 hf
    go_enter Tryz.func191, Tryz.ntmps191
    go_wp2_with fail
    refine (HA.out _).mono ?_
    rintro e w1 ⟨rfl, hb1⟩
    have HB1 := Lib.hid (blN (Below.refl _ _) hb1)
    clear hb1
    go_wp2_with fail
    refine (HI.out _).mono ?_
    rintro e w2 ⟨rfl, hw2⟩
    subst hw2
    go_wp2_with fail
    refine (HJ.out _).mono ?_
    rintro e w3 ⟨rfl, hw3⟩
    subst hw3
    go_wp2
    go_ret2
    exact ⟨rfl, HB1.out⟩
set_option maxRecDepth 20000 in
theorem mcount_any (w : World) (s : ByteArray) (n : Int) (h : mapC s n = 0) :
    Calls Tryz.prog 108 #[.string s, .int .i64 n] w fun e w' => e = .returned (.tuple #[.int .i64 (onesN s : Int), .int .i64 0]) ∧ Below w.heap.size w w' := by
  have ha := fun W : World => mcheck_any W s n
  rw [h] at ha
  have hi := fun W : World => Tryz.strings_Count_one s 1 W
  have hx : Lib.countByte s.data.toList 1 = onesN s := rfl
  rw [hx] at hi
  obtain ⟨c, hc⟩ : ∃ c, onesN s = c := ⟨_, rfl⟩
  rw [hc] at hi ⊢
  have HA := Lib.hid ha
  have HI := Lib.hid hi
  clear ha hi
  clear h hx hc
  go_enter Tryz.func108, Tryz.ntmps108
  go_wp2_with fail
  refine (HA.out _).mono ?_
  rintro e w1 ⟨rfl, hb1⟩
  have HB1 := Lib.hid (blN (Below.refl _ _) hb1)
  clear hb1
  go_wp2_with fail
  refine (HI.out _).mono ?_
  rintro e w2 ⟨rfl, hw2⟩
  subst hw2
  go_wp2
  go_ret2
  exact ⟨rfl, HB1.out⟩
end
end Go.Proofs.YtgofmnhfajmbfaaGreatDoor
