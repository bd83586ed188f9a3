/-
  Walks of layer 15's laws: small, laid, works.
-/
import Derived.Test.YtghafpdmcbockaaGreatDoorAllocLay
import Derived.Test.YtghafpdmcbockaaGreatDoorAmongDet
import Derived.Test.YtghafpdmcbockaaGreatDoorHeldTail
namespace Go.Proofs.YtghafpdmcbockaaGreatDoor
open Go Go.RowKit Txt Sp

def smallG (g : Sp.Geom) : Sp.Geom := ⟨1 + amongJ g.groups 3, 1 + amongJ g.inodes 6, 1 + amongJ g.blocks 9⟩
theorem smallG_bd (g : Sp.Geom) : (1 ≤ (smallG g).groups ∧ (smallG g).groups ≤ 3) ∧ (1 ≤ (smallG g).inodes ∧ (smallG g).inodes ≤ 6) ∧ (1 ≤ (smallG g).blocks ∧ (smallG g).blocks ≤ 9) := by
  have h1 := amongJ_bd g.groups 3 (by decide)
  have h2 := amongJ_bd g.inodes 6 (by decide)
  have h3 := amongJ_bd g.blocks 9 (by decide)
  unfold smallG
  dsimp only
  omega
theorem smallG_ok (g : Sp.Geom) : (smallG g).ok := by
  have := smallG_bd g
  unfold Sp.Geom.ok
  omega
section
set_option maxHeartbeats 4000000
set_option maxRecDepth 20000 in
theorem small_any (w : World) (g : Sp.Geom) : Calls Tryz.prog 8 #[gV g] w fun e w' => e = .returned (gV (smallG g)) ∧ Below w.heap.size w w' := by
  obtain ⟨ga, gb, gc⟩ := g
  have h1 := fun W : World => amongJ_any W ga 3 (by decide) (by decide)
  have h2 := fun W : World => amongJ_any W gb 6 (by decide) (by decide)
  have h3 := fun W : World => amongJ_any W gc 9 (by decide) (by decide)
  have b1 := amongJ_bd ga 3 (by decide)
  have b2 := amongJ_bd gb 6 (by decide)
  have b3 := amongJ_bd gc 9 (by decide)
  unfold smallG gV
  dsimp only
  obtain ⟨x, hx⟩ : ∃ x, amongJ ga 3 = x := ⟨_, rfl⟩
  obtain ⟨y, hy⟩ : ∃ x, amongJ gb 6 = x := ⟨_, rfl⟩
  obtain ⟨z, hz⟩ : ∃ x, amongJ gc 9 = x := ⟨_, rfl⟩
  rw [hx] at h1 b1 ⊢
  rw [hy] at h2 b2 ⊢
  rw [hz] at h3 b3 ⊢
  have e1 : IntKind.i64.wrap (1 + x) = 1 + x := IntWalk.i64_in _ (by omega)
  have e2 : IntKind.i64.wrap (1 + y) = 1 + y := IntWalk.i64_in _ (by omega)
  have e3 : IntKind.i64.wrap (1 + z) = 1 + z := IntWalk.i64_in _ (by omega)
  obtain ⟨W0, hW0⟩ : ∃ W, w.alloc (.cells #[.int .i64 ga, .int .i64 gb, .int .i64 gc] 23) = W := ⟨_, rfl⟩
  obtain ⟨W1, hW1⟩ : ∃ W, W0.alloc (.cells #[.int .i64 0, .int .i64 0, .int .i64 0] 23) = W := ⟨_, rfl⟩
  have hk := g_keep hW0
  have HB0 := Lib.hid hk.1
  have HK := Lib.hid hk.2
  have hs0 : W0.heap.size = w.heap.size + 1 := by rw [← hW0]; simp
  have HB1 : Hid (Below W0.heap.size W0 W1) := by rw [← hW1]; exact bl2 _
  have HZ1 : Hid (W1.heap[W0.heap.size]? = some (.cells #[.int .i64 0, .int .i64 0, .int .i64 0] 23 (0, 0))) := by rw [← hW1]; exact heapNew W0 _
  have HS0 := Lib.hid hs0
  have H1 := Lib.hid h1
  have H2 := Lib.hid h2
  have H3 := Lib.hid h3
  clear h1 h2 h3
  clear hk b1 b2 b3 hx hy hz hs0
  go_enter Tryz.func8, Tryz.ntmps8
  go_wp2_with fail
  clear hW0 hW1
  have hZ : ∀ W : World, Below W1.heap.size W1 W → (W.cell? ⟨w.heap.size, 0, none⟩ = some (.int .i64 ga) ∧ W.cell? ⟨w.heap.size, 1, none⟩ = some (.int .i64 gb) ∧ W.cell? ⟨w.heap.size, 2, none⟩ = some (.int .i64 gc)) ∧ (W.cell? ⟨W0.heap.size, 0, none⟩ = some (.int .i64 0) ∧ W.cell? ⟨W0.heap.size, 1, none⟩ = some (.int .i64 0) ∧ W.cell? ⟨W0.heap.size, 2, none⟩ = some (.int .i64 0)) ∧ W.frozen? ⟨W0.heap.size, 0, none⟩ = false ∧ W.frozen? ⟨W0.heap.size, 1, none⟩ = false ∧ W.frozen? ⟨W0.heap.size, 2, none⟩ = false := fun W hW => by
    have h := heapOld hW HZ1.out
    exact ⟨HK.out W (blN HB1.out hW), ⟨cellOf h rfl, cellOf h rfl, cellOf h rfl⟩, freeOf h, freeOf h, freeOf h⟩
  have hS0 := hZ W1.drew (blD (Below.refl _ _))
  refine wp_region_tail (fun W => (W.cell? ⟨w.heap.size, 0, none⟩ = some (.int .i64 ga) ∧ W.cell? ⟨w.heap.size, 1, none⟩ = some (.int .i64 gb) ∧ W.cell? ⟨w.heap.size, 2, none⟩ = some (.int .i64 gc)) ∧ (W.cell? ⟨W0.heap.size, 0, none⟩ = some (.int .i64 0) ∧ W.cell? ⟨W0.heap.size, 1, none⟩ = some (.int .i64 0) ∧ W.cell? ⟨W0.heap.size, 2, none⟩ = some (.int .i64 0)) ∧ W.frozen? ⟨W0.heap.size, 0, none⟩ = false ∧ W.frozen? ⟨W0.heap.size, 1, none⟩ = false ∧ W.frozen? ⟨W0.heap.size, 2, none⟩ = false) 13 (by kernel_rfl) (by kernel_rfl) (by first | trivial | assumption) (fun hHeld hLast hClosed => ?_)
  refine AnyT.take (i := 0) (v := ?_) hLast hClosed rfl (by decide) (by kernel_rfl) (by kernel_rfl) (by kernel_rfl) (fun _ _ _ h => h) (Or.inl ⟨by rfl, ?_⟩) hHeld (fun hClosed2 => ?_)
  rotate_left
  · (intro w hSw; first | (go_simp; done) | (go_simp; with_reducible rfl))
  clear hClosed; have hClosed := hClosed2; clear hClosed2
  simp only [Act.put, List.setIfInBounds_toArray, List.set_cons_zero, List.set_cons_succ, List.getElem_toArray, List.getElem_cons_zero]
  refine AnyT.take (i := 1) (v := ?_) hLast hClosed rfl (by decide) (by kernel_rfl) (by kernel_rfl) (by kernel_rfl) (fun _ _ _ h => h) (Or.inl ⟨by rfl, ?_⟩) hHeld (fun hClosed2 => ?_)
  rotate_left
  · (intro w hSw; first | (go_simp; done) | (go_simp; with_reducible rfl))
  clear hClosed; have hClosed := hClosed2; clear hClosed2
  simp only [Act.put, List.setIfInBounds_toArray, List.set_cons_zero, List.set_cons_succ, List.getElem_toArray, List.getElem_cons_zero, List.getElem_cons_succ]
  refine AnyT.take (i := 4) (v := ?_) hLast hClosed rfl (by decide) (by kernel_rfl) (by kernel_rfl) (by kernel_rfl) (fun _ _ _ h => h) (Or.inl ⟨by rfl, ?_⟩) hHeld (fun hClosed2 => ?_)
  rotate_left
  · (intro w hSw; first | (go_simp; done) | (go_simp; with_reducible rfl))
  clear hClosed; have hClosed := hClosed2; clear hClosed2
  simp only [Act.put, List.setIfInBounds_toArray, List.set_cons_zero, List.set_cons_succ, List.getElem_toArray, List.getElem_cons_zero, List.getElem_cons_succ]
  refine AnyT.take (i := 5) (v := ?_) hLast hClosed rfl (by decide) (by kernel_rfl) (by kernel_rfl) (by kernel_rfl) (fun _ _ _ h => h) (Or.inl ⟨by rfl, ?_⟩) hHeld (fun hClosed2 => ?_)
  rotate_left
  · (intro w hSw; first | (go_simp; done) | (go_simp; with_reducible rfl))
  clear hClosed; have hClosed := hClosed2; clear hClosed2
  simp only [Act.put, List.setIfInBounds_toArray, List.set_cons_zero, List.set_cons_succ, List.getElem_toArray, List.getElem_cons_zero, List.getElem_cons_succ]
  refine AnyT.take (i := 8) (v := ?_) hLast hClosed rfl (by decide) (by kernel_rfl) (by kernel_rfl) (by kernel_rfl) (fun _ _ _ h => h) (Or.inl ⟨by rfl, ?_⟩) hHeld (fun hClosed2 => ?_)
  rotate_left
  · (intro w hSw; first | (go_simp; done) | (go_simp; with_reducible rfl))
  clear hClosed; have hClosed := hClosed2; clear hClosed2
  simp only [Act.put, List.setIfInBounds_toArray, List.set_cons_zero, List.set_cons_succ, List.getElem_toArray, List.getElem_cons_zero, List.getElem_cons_succ]
  refine AnyT.take (i := 9) (v := ?_) hLast hClosed rfl (by decide) (by kernel_rfl) (by kernel_rfl) (by kernel_rfl) (fun _ _ _ h => h) (Or.inl ⟨by rfl, ?_⟩) hHeld (fun hClosed2 => ?_)
  rotate_left
  · (intro w hSw; first | (go_simp; done) | (go_simp; with_reducible rfl))
  clear hClosed; have hClosed := hClosed2; clear hClosed2
  simp only [Act.put, List.setIfInBounds_toArray, List.set_cons_zero, List.set_cons_succ, List.getElem_toArray, List.getElem_cons_zero, List.getElem_cons_succ]
  refine AnyT.one (i := 2) hClosed (by kernel_rfl) rfl (fun K hK => ?_)
  try simp only [List.getElem_toArray, List.getElem_cons_zero, List.getElem_cons_succ]
  go_simp
  refine (H1.out _).mono ?_
  rintro e w2 ⟨rfl, hw2⟩
  subst hw2
  try simp only
  refine hK.out _ _ (fun _ => ?hkS) (fun hHeld2 hClosed2 => ?_)
  case hkS =>
    exact hS0
  have hHeld := hHeld2 (by decide)
  clear hK K hHeld2 hClosed; have hClosed := hClosed2; clear hClosed2
  try simp only [Act.put, List.setIfInBounds_toArray, List.set_cons_zero, List.set_cons_succ, List.getElem_toArray, List.getElem_cons_zero, List.getElem_cons_succ]
  refine AnyT.take (i := 3) (v := ?_) hLast hClosed rfl (by decide) (by kernel_rfl) (by kernel_rfl) (by kernel_rfl) (fun _ _ _ h => h) (Or.inl ⟨by rfl, ?_⟩) hHeld (fun hClosed2 => ?_)
  rotate_left
  · (intro w hSw; first | (go_simp; done) | (go_simp; with_reducible rfl))
  clear hClosed; have hClosed := hClosed2; clear hClosed2
  simp only [Act.put, List.setIfInBounds_toArray, List.set_cons_zero, List.set_cons_succ, List.getElem_toArray, List.getElem_cons_zero, List.getElem_cons_succ]
  refine AnyT.one (i := 6) hClosed (by kernel_rfl) rfl (fun K hK => ?_)
  try simp only [List.getElem_toArray, List.getElem_cons_zero, List.getElem_cons_succ]
  go_simp
  refine (H2.out _).mono ?_
  rintro e w2 ⟨rfl, hw2⟩
  subst hw2
  try simp only
  refine hK.out _ _ (fun _ => ?hkS) (fun hHeld2 hClosed2 => ?_)
  case hkS =>
    exact hS0
  have hHeld := hHeld2 (by decide)
  clear hK K hHeld2 hClosed; have hClosed := hClosed2; clear hClosed2
  try simp only [Act.put, List.setIfInBounds_toArray, List.set_cons_zero, List.set_cons_succ, List.getElem_toArray, List.getElem_cons_zero, List.getElem_cons_succ]
  refine AnyT.take (i := 7) (v := ?_) hLast hClosed rfl (by decide) (by kernel_rfl) (by kernel_rfl) (by kernel_rfl) (fun _ _ _ h => h) (Or.inl ⟨by rfl, ?_⟩) hHeld (fun hClosed2 => ?_)
  rotate_left
  · (intro w hSw; first | (go_simp; done) | (go_simp; with_reducible rfl))
  clear hClosed; have hClosed := hClosed2; clear hClosed2
  simp only [Act.put, List.setIfInBounds_toArray, List.set_cons_zero, List.set_cons_succ, List.getElem_toArray, List.getElem_cons_zero, List.getElem_cons_succ]
  refine AnyT.one (i := 10) hClosed (by kernel_rfl) rfl (fun K hK => ?_)
  try simp only [List.getElem_toArray, List.getElem_cons_zero, List.getElem_cons_succ]
  go_simp
  refine (H3.out _).mono ?_
  rintro e w2 ⟨rfl, hw2⟩
  subst hw2
  try simp only
  refine hK.out _ _ (fun _ => ?hkS) (fun hHeld2 hClosed2 => ?_)
  case hkS =>
    exact hS0
  have hHeld := hHeld2 (by decide)
  clear hK K hHeld2 hClosed; have hClosed := hClosed2; clear hClosed2
  try simp only [Act.put, List.setIfInBounds_toArray, List.set_cons_zero, List.set_cons_succ, List.getElem_toArray, List.getElem_cons_zero, List.getElem_cons_succ]
  refine AnyT.take (i := 11) (v := ?_) hLast hClosed rfl (by decide) (by kernel_rfl) (by kernel_rfl) (by kernel_rfl) (fun _ _ _ h => h) (Or.inl ⟨by rfl, ?_⟩) hHeld (fun hClosed2 => ?_)
  rotate_left
  · (intro w hSw; first | (go_simp; done) | (go_simp; with_reducible rfl))
  clear hClosed; have hClosed := hClosed2; clear hClosed2
  simp only [Act.put, List.setIfInBounds_toArray, List.set_cons_zero, List.set_cons_succ, List.getElem_toArray, List.getElem_cons_zero, List.getElem_cons_succ]
  refine AnyT.take (i := 12) (v := ?_) hLast hClosed rfl (by decide) (by kernel_rfl) (by kernel_rfl) (by kernel_rfl) (fun _ _ _ h => h) (Or.inl ⟨by rfl, ?_⟩) hHeld (fun hClosed2 => ?_)
  rotate_left
  · (intro w hSw; first | (go_simp; done) | (go_simp; with_reducible rfl))
  clear hClosed; have hClosed := hClosed2; clear hClosed2
  simp only [Act.put, List.setIfInBounds_toArray, List.set_cons_zero, List.set_cons_succ, List.getElem_toArray, List.getElem_cons_zero, List.getElem_cons_succ]
  obtain ⟨-, ⟨y0, y1, y2⟩, v0, v1, v2⟩ := hZ W1 (Below.refl _ _)
  refine AnyT.one (i := 13) hClosed (by kernel_rfl) rfl (fun K hK => ?_)
  try simp only [List.getElem_toArray, List.getElem_cons_zero, List.getElem_cons_succ]
  go_simp
  try simp only
  refine hK.out _ _ (fun h => absurd rfl h) (fun _ _ => ?_)
  clear hK K
  try simp only [Act.put, List.setIfInBounds_toArray, List.set_cons_zero, List.set_cons_succ]
  refine AnyT.done (by kernel_rfl) ?_ _
  clear hHeld hClosed hS0 hZ y0 y1 y2 v0 v1 v2
  obtain ⟨Wf, hWf⟩ : ∃ W, (((W1.setCell ⟨W0.heap.size, 0, none⟩ (.int .i64 (1 + x))).setCell ⟨W0.heap.size, 1, none⟩ (.int .i64 (1 + y))).setCell ⟨W0.heap.size, 2, none⟩ (.int .i64 (1 + z))) = W := ⟨_, rfl⟩
  have hbf : Below w.heap.size w Wf := by rw [← hWf]; exact sets_below (by have := HS0.out; omega) [.int .i64 (1 + x), .int .i64 (1 + y), .int .i64 (1 + z)] 0 _ (blN HB0.out HB1.out)
  have hzf : Wf.heap[W0.heap.size]? = some (.cells #[.int .i64 (1 + x), .int .i64 (1 + y), .int .i64 (1 + z)] 23 (0, 0)) := by rw [← hWf]; exact sets_all (vs := [.int .i64 (1 + x), .int .i64 (1 + y), .int .i64 (1 + z)]) HZ1.out rfl
  have y0 := cellOf (k := 0) hzf rfl
  have y1 := cellOf (k := 1) hzf rfl
  have y2 := cellOf (k := 2) hzf rfl
  go_wp2
  rw [hWf]
  refine bodyPost_ret (v := .agg #[.int .i64 (1 + x), .int .i64 (1 + y), .int .i64 (1 + z)]) (by simp [results, Tryz.results8, go_sem, y0, y1, y2]) rfl ?_
  exact ⟨rfl, blD hbf⟩
set_option maxRecDepth 20000 in
/-- A side of an empty file system. -/
theorem laid_any (w : World) {g : Sp.Geom} (hg : g.ok) : Calls Tryz.prog 9 #[gV g] w fun e w' =>
    ∃ base B Bd D, e = .returned (.tuple #[pt Bd, pt B]) ∧ SideAt w' base B Bd (freshSide g 0 0) D ∧ Below w.heap.size w w' ∧ ∀ j, D j → w.heap.size ≤ j ∧ j < w'.heap.size := by
  have hsz := fun W : World => gsize_any W g
  have hz := Geom.size_bd hg
  obtain ⟨N, hN⟩ : ∃ N : Nat, g.size = (N : Int) := ⟨g.size.toNat, by omega⟩
  rw [hN] at hsz hz
  have hnew := fun W : World => diskNew_any W N (by omega) (by omega)
  have hlay := fun (W : World) (base Bd : Nat) (D : Nat → Prop) (h : DiskAt W base Bd (newDisk N) D) (hD : ∀ j, D j → j < W.heap.size) => alay_any h hD hg (by rw [hN]; simp [newDisk])
  have hsoft := fun (W : World) (base Bd : Nat) (D : Nat → Prop) (h : DiskAt W base Bd { newDisk N with l := formatL g } D) (hb : base ≤ W.heap.size) => softNew_any h hb 0 0 ⟨by decide, by decide⟩ ⟨by decide, by decide⟩
  have heq := eql_disk_nil
  have hfr : (⟨{ newDisk N with l := formatL g }, ⟨[], 0⟩, 0, 0, []⟩ : Sp.Side) = freshSide g 0 0 := rfl
  rw [hfr] at hsoft
  obtain ⟨S, hS⟩ : ∃ S, freshSide g 0 0 = S := ⟨_, rfl⟩
  rw [hS] at hsoft ⊢
  obtain ⟨dN, hdN⟩ : ∃ d, newDisk N = d := ⟨_, rfl⟩
  rw [hdN] at hnew hlay hsoft
  obtain ⟨dF, hdF⟩ : ∃ d : Sp.Disk, { dN with l := formatL g } = d := ⟨_, rfl⟩
  rw [hdF] at hlay hsoft
  obtain ⟨ga, gb, gc⟩ := g
  unfold gV at hsz hlay ⊢
  unfold pt at *
  obtain ⟨W0, hW0⟩ : ∃ W, w.alloc (.cells #[.int .i64 ga, .int .i64 gb, .int .i64 gc] 23) = W := ⟨_, rfl⟩
  have hk := g_keep hW0
  have HB0 := Lib.hid hk.1
  have HK := Lib.hid hk.2
  clear hk
  have HSZ := Lib.hid hsz
  have HNEW := Lib.hid hnew
  have HLAY := Lib.hid hlay
  have HSOFT := Lib.hid hsoft
  clear hsz hnew hlay hsoft
  clear hg hz hN hfr hS hdN hdF
  obtain ⟨z0, z1, z2⟩ := HK.out W0 (Below.refl _ _)
  go_enter Tryz.func9, Tryz.ntmps9
  go_wp2_with fail
  clear z0 z1 z2
  refine (HSZ.out _).mono ?_
  rintro e w1 ⟨rfl, hb1⟩
  have HB1 := Lib.hid hb1
  clear hb1
  go_wp2_with fail
  refine (HNEW.out _).mono ?_
  rintro e w2 ⟨Bd, D, rfl, hd2, hb2, hD2⟩
  have HB2 := Lib.hid (blN HB1.out hb2)
  have HX2 := Lib.hid hb2.size
  have HDA := Lib.hid hd2
  have HDB := Lib.hid hD2
  have hl2 := HLAY.out w2 _ Bd D hd2 (fun j hj => (hD2 j hj).2)
  have HL2 := Lib.hid hl2
  clear hl2
  clear hb2 hd2 hD2
  obtain ⟨z0, z1, z2⟩ := HK.out w2 HB2.out
  go_wp2_with fail
  clear z0 z1 z2
  refine HL2.out.mono ?_
  rintro e w3 ⟨rfl, hd3, K3, hK3, hT3⟩
  have hs2 := HB2.out.size
  have hs0 := HB0.out.size
  have hs1 := HB1.out.size
  have HB3 : Hid (Below w.heap.size w w3) := (blN HB0.out HB2.out).trans (hT3.below (fun j hj => by have := (HDB.out j (hK3 j hj)).1; omega) (by omega))
  have HS3 : Hid (w2.heap.size ≤ w3.heap.size) := hT3.size
  have hs3 := HS3.out
  have hso := HSOFT.out w3 _ Bd D hd3 (by have := HX2.out; omega)
  have HSO := Lib.hid hso
  clear hso
  clear hd3 hK3 hT3 hs2 hs0 hs1 hs3
  go_wp2_with fail
  refine HSO.out.mono ?_
  rintro e w4 ⟨B, D', rfl, hsa, hb4, hD4⟩
  have HF : Hid (∃ base B' Bd' D, Ending.returned (.tuple #[.pointer (some ⟨Bd, 0, none⟩), .pointer (some ⟨B, 0, none⟩)]) = Ending.returned (.tuple #[.pointer (some ⟨Bd', 0, none⟩), .pointer (some ⟨B', 0, none⟩)]) ∧ SideAt w4 base B' Bd' S D ∧ Below w.heap.size w w4 ∧ ∀ j, D j → w.heap.size ≤ j ∧ j < w4.heap.size) := by
    have h3 := HB3.out.size
    have h4 := hb4.size
    have h0 := HB0.out.size
    have h1 := HB1.out.size
    have h23 := HS3.out
    refine ⟨_, B, Bd, D', rfl, hsa, blN HB3.out hb4, fun j hj => ?_⟩
    rcases hD4 j hj with h | h
    · have := HDB.out j h
      omega
    · omega
  clear hsa hb4 hD4
  go_wp2
  go_ret2
  exact HF.out
end
end Go.Proofs.YtghafpdmcbockaaGreatDoor
