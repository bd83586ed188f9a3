/-
  Walks of layer 17: put.
-/
import Derived.Test.YtaphcmcimoloiaaGreatDoorDirMem
import Derived.Test.YtaphcmcimoloiaaGreatDoorAllA
import Derived.Test.YtaphcmcimoloiaaGreatDoorMapsB
import Derived.Test.YtaphcmcimoloiaaGreatDoorDirOpen
import Derived.Test.YtaphcmcimoloiaaGreatDoorBmWrite
import Derived.Test.YtaphcmcimoloiaaGreatDoorDirAsk
namespace Go.Proofs.YtaphcmcimoloiaaGreatDoor
open Go Go.RowKit Txt Sp

def DPutPost (w : World) (base B Bd : Nat) (S : Sp.Side) (D : Nat → Prop) (i : Int) (k : Nat) (x : Sp.Entry) (ahead : List Int) (e : Ending) (w' : World) : Prop :=
  e = .returned (.tuple #[.int .i64 (S.changeN i ((k : Int) * 16) (ofL (slotL x)) ahead), .int .i64 (S.changeC i ((k : Int) * 16) (ofL (slotL x)) ahead)]) ∧ SideTo w base B Bd (S.change i ((k : Int) * 16) (ofL (slotL x)) ahead) D w'
section
set_option maxHeartbeats 4000000
set_option maxRecDepth 20000 in
theorem dput_any {w : World} {base B Bd : Nat} {S : Sp.Side} {D : Nat → Prop} (h : SideAt w base B Bd S D) (hS : S.Ok) (hlast : S.deps.last < 1000000000) (hm : MaxOk w) (i : Int) (k : Nat) (hk : k < 4) (x : Sp.Entry) (hx : x.may) (v : Value) (ahead : List Int) (hv : Ints w v ahead) (hal : ahead.length ≤ 100000) :
    Calls Tryz.prog 108 #[pt B, .int .i64 i, .int .i64 (k : Int), eV x, v] w (DPutPost w base B Bd S D i k x ahead) := by
  have hpu := fun (W : World) (hW : Below w.heap.size w W) => eput_any W (k : Int) x (hm.below hW) (by have := (may_bd hx).2.2; unfold maxLen; omega)
  unfold EPut at hpu
  simp only [if_neg (show ¬ ((k : Int) < 0 ∨ 4 ≤ (k : Int)) by omega), if_pos hx] at hpu
  have hc := fun (W : World) (hW : Below w.heap.size w W) => softChange_any (h.below hW) hS hlast i ((k : Int) * 16) (ofL (slotL x)) v ahead (hv.below hW) hal
  have hfin : ∀ (W : World) (e : Ending) (w' : World), Below w.heap.size w W → ChangePost W base B Bd S D i ((k : Int) * 16) (ofL (slotL x)) ahead e w' → DPutPost w base B Bd S D i k x ahead e w' := fun W e w' hb hA => ⟨hA.1, hA.to.2.ahead hb⟩
  obtain ⟨tx, htx⟩ : ∃ t, ofL (slotL x) = t := ⟨_, rfl⟩
  obtain ⟨o, ho⟩ : ∃ o : Int, (k : Int) * 16 = o := ⟨_, rfl⟩
  obtain ⟨kk, hkk⟩ : ∃ o : Int, (k : Int) = o := ⟨_, rfl⟩
  obtain ⟨Q, hQ⟩ : ∃ Q, DPutPost w base B Bd S D i k x ahead = Q := ⟨_, rfl⟩
  rw [hQ] at hfin ⊢
  rw [htx, ho] at hpu hc hfin
  rw [hkk] at hpu ⊢
  obtain ⟨xi, xn⟩ := x
  unfold pt eV at *
  dsimp only at hpu ⊢
  obtain ⟨W0, hW0⟩ : ∃ W, w.alloc (.cells #[.int .i64 xi, .string xn] 69) = W := ⟨_, rfl⟩
  have HB0 : Hid (Below w.heap.size w W0) := by rw [← hW0]; exact bl2 _
  have HC0 : Hid (W0.heap[w.heap.size]? = some (.cells #[.int .i64 xi, .string xn] 69 (0, 0))) := by rw [← hW0]; exact heapNew w _
  have y0 := cellOf (k := 0) HC0.out rfl
  have y1 := cellOf (k := 1) HC0.out rfl
  have HPU := Lib.hid hpu
  have HC := Lib.hid hc
  have HFIN := Lib.hid hfin
  clear hpu hc hfin
  clear hQ hx h hS hlast hv hal hm htx ho hkk hk
  go_enter Tryz.func108, Tryz.ntmps108
  go_wp2_with fail
  clear y0 y1 hW0
  refine (HPU.out _ HB0.out).mono ?_
  rintro e w1 ⟨rfl, hb1⟩
  have HB1 := Lib.hid (blN HB0.out hb1)
  clear hb1
  obtain ⟨W2, hW2⟩ : ∃ W, w1.alloc (.cells #[.int .i64 o, .string tx] 163) = W := ⟨_, rfl⟩
  have HB2 : Hid (Below w.heap.size w W2) := by rw [← hW2]; exact bl1 HB1.out _
  have HP2 : Hid (W2.heap[w1.heap.size]? = some (.cells #[.int .i64 o, .string tx] 163 (0, 0))) := by rw [← hW2]; exact heapNew w1 _
  have x0 := cellOf (k := 0) HP2.out rfl
  have x1 := cellOf (k := 1) HP2.out rfl
  go_wp2_with fail
  clear x0 x1 hW2
  refine (HC.out _ HB2.out).mono ?_
  rintro e w3 hA
  have HF := Lib.hid (HFIN.out _ _ _ HB2.out hA)
  obtain ⟨he, -⟩ := hA
  subst he
  go_wp2
  first | exact HF.out | (go_ret2; exact HF.out)
end
end Go.Proofs.YtaphcmcimoloiaaGreatDoor
namespace Go.Proofs.YtaphcmcimoloiaaGreatDoor
open Go Go.RowKit Txt Sp

def GrownPost (w : World) (base B Bd : Nat) (D : Nat → Prop) (q : Nat) (c : Int) (t' : BSt) (b : Int) (e : Ending) (w' : World) : Prop :=
  (40 ≤ q ∧ e = .returned (.tuple #[.slice none 0 0, .int .i64 0, .int .i64 109]) ∧ Turn D w w') ∨
  (q < 40 ∧ c ≠ 0 ∧ e = .returned (.tuple #[.slice none 0 0, .int .i64 0, .int .i64 c]) ∧ Turn D w w') ∨
  (q < 40 ∧ c = 0 ∧ ∃ v, e = .returned (.tuple #[v, .int .i64 b, .int .i64 0]) ∧ Ints w' v t'.made ∧ SideTo w base B Bd t'.S D w' ∧ FineRow w base B Bd D t' v w')
theorem FineRow.move {w W w3 w' : World} {base B Bd : Nat} {D : Nat → Prop} {t' : BSt} {v : Value} (h : FineRow W base B Bd D t' v w3) (h1 : Below w.heap.size w W) (h2 : Below w3.heap.size w3 w') : FineRow w base B Bd D t' v w' := by
  obtain ⟨ho, D', hs, hb, ha⟩ := h
  have e1 := h1.size
  have e2 := h2.size
  exact ⟨(ho.below h2).mono e1, D', hs.below h2, fun j hj => (hb j hj).imp_right (fun h => ⟨by omega, by omega⟩), ha⟩
section
set_option maxHeartbeats 4000000
set_option maxRecDepth 20000 in
theorem dgrown_any {w : World} {base B Bd Bo : Nat} {S : Sp.Side} {D : Nat → Prop} (h : SideAt w base B Bd S D) (hD : ∀ j, D j → j < w.heap.size) {g : Sp.Geom} {i : Int} {F : File} (hs : Stands S g i F) (hlast : S.deps.last ≤ 900000000) (hkind : F.kind ≠ 0) (hnn : ∀ b ∈ F.blocks, 0 ≤ b)
    (vk : Value) (ks : List Int) (hv : ∀ W, Turn D w W → Ints W vk ks) (hks : ∀ k ∈ ks, 0 ≤ k ∧ k < g.groups) {cs : Array Value} (q : Nat) (hq : q ≤ 40) (ho : w.heap[Bo]? = some (.cells cs 281 (0, 0))) (hcs : cs[2]? = some (.int .i64 ((64 * q : Nat) : Int))) (hoD : ¬ D Bo)
    (c : Int) (t' : BSt) (hc : ((⟨S, F, []⟩ : BSt).writeC g i ks 1 (64 * q) Sp.blank.data.toList) = c) (ht : ((⟨S, F, []⟩ : BSt).write g i ks 1 (64 * q) Sp.blank.data.toList) = t')
    (b : Int) (hst : q < 40 → c = 0 → Stands t'.S g i t'.F ∧ t'.F.blocks[q]? = some b) :
    Calls Tryz.prog 112 #[pt B, gV g, .int .i64 i, pt Bo, vk] w (GrownPost w base B Bd D q c t' b) := by
  obtain ⟨W0, hW0⟩ : ∃ W, w.alloc (.cells #[.int .i64 g.groups, .int .i64 g.inodes, .int .i64 g.blocks] 27) = W := ⟨_, rfl⟩
  have HB0 : Hid (Below w.heap.size w W0) := by rw [← hW0]; exact bl2 _
  have HZ0 : Hid (W0.heap[w.heap.size]? = some (.cells #[.int .i64 g.groups, .int .i64 g.inodes, .int .i64 g.blocks] 27 (0, 0))) := by rw [← hW0]; exact heapNew w _
  have HO0 : Hid (W0.heap[Bo]? = some (.cells cs 281 (0, 0))) := heapOld HB0.out ho
  obtain ⟨z, hz⟩ : ∃ z : Int, ((64 * q : Nat) : Int) = z := ⟨_, rfl⟩
  rw [hz] at hcs
  have x2 := cellOf (k := 2) HO0.out hcs
  obtain ⟨Q, hQ⟩ : ∃ Q, GrownPost w base B Bd D q c t' b = Q := ⟨_, rfl⟩
  by_cases hq4 : 40 ≤ q
  · have HF : Hid (∀ W, Below w.heap.size w W → Q (.returned (.tuple #[.slice none 0 0, .int .i64 0, .int .i64 109])) W) := fun W hW => by rw [← hQ]; exact Or.inl ⟨hq4, rfl, Turn.of_below hW⟩
    rw [hQ]
    have hz2 : 2560 ≤ z := by omega
    have hzd : decide (2560 ≤ z) = true := decide_eq_true hz2
    have HF0 := Lib.hid (HF.out W0 HB0.out)
    obtain ⟨ga, gb, gc⟩ := g
    unfold gV pt
    dsimp only at hW0 ⊢
    clear h hD hs hv hks hst hc ht hQ HZ0 hq4 hz
    go_enter Tryz.func112, Tryz.ntmps112
    go_wp2
    first | exact HF0.out | (go_ret2; exact HF0.out)
  · have hq39 : q < 40 := by omega
    have hzd : decide (2560 ≤ z) = false := decide_eq_false (by omega)
    have hz3 : z < 2560 := by omega
    have HS0 : Hid (∀ W, Below W0.heap.size W0 W → (W.cell? ⟨w.heap.size, 0, none⟩ = some (.int .i64 g.groups) ∧ W.cell? ⟨w.heap.size, 1, none⟩ = some (.int .i64 g.inodes) ∧ W.cell? ⟨w.heap.size, 2, none⟩ = some (.int .i64 g.blocks) ∧ W.cell? ⟨Bo, 2, none⟩ = some (.int .i64 z))) := fun W hW => by
      have h1 := heapOld hW HZ0.out
      exact ⟨cellOf (k := 0) h1 rfl, cellOf (k := 1) h1 rfl, cellOf (k := 2) h1 rfl, cellOf (k := 2) (heapOld hW HO0.out) hcs⟩
    have hwr : ∀ W, Below w.heap.size w W → Calls Tryz.prog 28 #[pt B, gV g, .int .i64 i, .int .i64 z, .string Sp.blank, vk] W (MadeFine W base B Bd D c t') := fun W hW => by
      have hl : Sp.blank.data.toList.length = 64 := by decide +kernel
      have := bwriteF_any (h.below hW) (fun j hj => by have := hD j hj; have := hW.size; omega) hs hlast hkind hnn vk ks (fun W' hT => hv W' ((Turn.of_below (K := D) hW).trans hT (fun _ _ h => h) (fun _ _ h => h))) hks (64 * q) Sp.blank (by decide +kernel) (by rw [hl]; omega) 1 (by rw [hl]; omega) (by omega)
      rw [hc, ht, hz] at this
      exact this
    have hbk := fun W => fblank_any W
    by_cases hc0 : c = 0
    · have HF : Hid (∀ v W W', Below w.heap.size w W → Ints W' v t'.made → SideTo W base B Bd t'.S D W' → FineRow w base B Bd D t' v W' → Q (.returned (.tuple #[v, .int .i64 b, .int .i64 0])) W') := fun v W W' hW h1 h2 h3 => by rw [← hQ]; exact Or.inr (Or.inr ⟨hq39, hc0, v, rfl, h1, h2.ahead hW, h3⟩)
      have hw2 : ∀ W, Below w.heap.size w W → Calls Tryz.prog 28 #[pt B, gV g, .int .i64 i, .int .i64 z, .string Sp.blank, vk] W fun e w' => ∃ v, e = .returned (.tuple #[v, .int .i64 0]) ∧ (Ints w' v t'.made ∧ SideTo W base B Bd t'.S D w') ∧ FineRow W base B Bd D t' v w' := fun W hW => (hwr W hW).mono (fun e w' hp => by
        rcases hp with ⟨_, h1⟩ | ⟨h0, _⟩
        · exact h1
        · exact absurd hc0 h0)
      obtain ⟨hst1, hst2⟩ := hst hq39 hc0
      have hlo := fun (W : World) (D' : Nat → Prop) (hW : SideAt W base B Bd t'.S D') => bLoad_any hW hst1
      have hbl := fun (W : World) (D' : Nat → Prop) (hW : SideAt W base B Bd t'.S D') => bBlocks_any hW hst1
      have hlen := hst1.file.len
      have HFile : Hid (t'.F.blocks.length = 40 ∧ t'.F.blocks[q]? = some b) := ⟨hlen, hst2⟩
      obtain ⟨bs, hbs⟩ : ∃ bs, t'.F.blocks = bs := ⟨_, rfl⟩
      rw [hbs] at HFile hbl
      obtain ⟨nd, hnd⟩ : ∃ nd, t'.F.node = nd := ⟨_, rfl⟩
      rw [hnd] at hlo hbl
      rw [hQ]
      obtain ⟨ga, gb, gc⟩ := g
      unfold nA iA at hlo hbl
      obtain ⟨n0, k0⟩ : ∃ x, nd.kind = x := ⟨_, rfl⟩
      obtain ⟨n1, k1⟩ : ∃ x, nd.links = x := ⟨_, rfl⟩
      obtain ⟨n2, k2⟩ : ∃ x, nd.size = x := ⟨_, rfl⟩
      obtain ⟨n3, k3⟩ : ∃ x, nd.parent = x := ⟨_, rfl⟩
      obtain ⟨n4, k4⟩ : ∃ x, nd.gen = x := ⟨_, rfl⟩
      obtain ⟨d0, k5⟩ : ∃ x, nd.direct.getD 0 0 = x := ⟨_, rfl⟩
      obtain ⟨d1, k6⟩ : ∃ x, nd.direct.getD 1 0 = x := ⟨_, rfl⟩
      obtain ⟨d2, k7⟩ : ∃ x, nd.direct.getD 2 0 = x := ⟨_, rfl⟩
      obtain ⟨d3, k8⟩ : ∃ x, nd.direct.getD 3 0 = x := ⟨_, rfl⟩
      obtain ⟨d4, k9⟩ : ∃ x, nd.direct.getD 4 0 = x := ⟨_, rfl⟩
      obtain ⟨d5, k10⟩ : ∃ x, nd.direct.getD 5 0 = x := ⟨_, rfl⟩
      obtain ⟨d6, k11⟩ : ∃ x, nd.direct.getD 6 0 = x := ⟨_, rfl⟩
      obtain ⟨d7, k12⟩ : ∃ x, nd.direct.getD 7 0 = x := ⟨_, rfl⟩
      obtain ⟨n5, k13⟩ : ∃ x, nd.more = x := ⟨_, rfl⟩
      simp only [k0, k1, k2, k3, k4, k5, k6, k7, k8, k9, k10, k11, k12, k13] at hlo hbl
      unfold gV pt at *
      dsimp only at hW0 HS0 hw2 HZ0 hlo hbl ⊢
      have hDO : Hid (∀ W W' K, Below w.heap.size w W → (∀ j, K j → D j) → Turn K W W' → W.heap[w.heap.size]? = some (.cells #[.int .i64 ga, .int .i64 gb, .int .i64 gc] 27 (0, 0)) → W.heap[Bo]? = some (.cells cs 281 (0, 0)) → W'.heap[w.heap.size]? = some (.cells #[.int .i64 ga, .int .i64 gb, .int .i64 gc] 27 (0, 0)) ∧ W'.heap[Bo]? = some (.cells cs 281 (0, 0))) := fun W W' K _ hK hT h1 h2 =>
        ⟨hT.heap h1 (fun hk => by have := hD _ (hK _ hk); omega), hT.heap h2 (fun hk => hoD (hK _ hk))⟩
      have hdiv : z.tdiv 64 = (q : Int) := by rw [Int.tdiv_eq_ediv_of_nonneg (by omega)]; omega
      have hdiv2 : z / 64 = (q : Int) := by omega
      have HW2 := Lib.hid hw2
      have HBK := Lib.hid hbk
      have HLO := Lib.hid hlo
      have HBL := Lib.hid hbl
      clear hw2 hbk hlo hbl
      clear h hD hs hv hks hst hc ht hQ hq4 hz hwr hlast hkind hnn hoD hst1 hst2 hlen hbs hnd k0 k1 k2 k3 k4 k5 k6 k7 k8 k9 k10 k11 k12 k13
      go_enter Tryz.func112, Tryz.ntmps112
      go_wp2
      clear x2 hW0
      have hS0 := HS0.out W0.drew (blD (Below.refl _ _))
      refine wp_region_last (fun W => W.cell? ⟨w.heap.size, 0, none⟩ = some (.int .i64 ga) ∧ W.cell? ⟨w.heap.size, 1, none⟩ = some (.int .i64 gb) ∧ W.cell? ⟨w.heap.size, 2, none⟩ = some (.int .i64 gc) ∧ W.cell? ⟨Bo, 2, none⟩ = some (.int .i64 z)) 10 (by kernel_rfl) (by first | trivial | assumption) (fun hHeld hClosed => ?_)
      refine AnyU.take (i := 0) (v := ?_) (by kernel_rfl) (by decide) hClosed rfl (by kernel_rfl) (by kernel_rfl) (by kernel_rfl) (fun _ _ _ h => h) (Or.inl ⟨by rfl, ?_⟩) (by first | exact fun _ => hHeld | exact fun h => absurd h (by decide)) (fun hClosed2 => ?_)
      rotate_left
      · (intro w hSw; first | (go_simp; done) | (go_simp; with_reducible rfl))
      clear hClosed; have hClosed := hClosed2; clear hClosed2
      simp only [Act.put, List.setIfInBounds_toArray, List.set_cons_zero, List.set_cons_succ, List.getElem_toArray, List.getElem_cons_zero]
      refine AnyU.take (i := 1) (v := ?_) (by kernel_rfl) (by decide) hClosed rfl (by kernel_rfl) (by kernel_rfl) (by kernel_rfl) (fun _ _ _ h => h) (Or.inl ⟨by rfl, ?_⟩) (by first | exact fun _ => hHeld | exact fun h => absurd h (by decide)) (fun hClosed2 => ?_)
      rotate_left
      · (intro w hSw; first | (go_simp; done) | (go_simp; with_reducible rfl))
      clear hClosed; have hClosed := hClosed2; clear hClosed2
      simp only [Act.put, List.setIfInBounds_toArray, List.set_cons_zero, List.set_cons_succ, List.getElem_toArray, List.getElem_cons_zero, List.getElem_cons_succ]
      refine AnyU.take (i := 2) (v := ?_) (by kernel_rfl) (by decide) hClosed rfl (by kernel_rfl) (by kernel_rfl) (by kernel_rfl) (fun _ _ _ h => h) (Or.inl ⟨by rfl, ?_⟩) (by first | exact fun _ => hHeld | exact fun h => absurd h (by decide)) (fun hClosed2 => ?_)
      rotate_left
      · (intro w hSw; first | (go_simp; done) | (go_simp; with_reducible rfl))
      clear hClosed; have hClosed := hClosed2; clear hClosed2
      simp only [Act.put, List.setIfInBounds_toArray, List.set_cons_zero, List.set_cons_succ, List.getElem_toArray, List.getElem_cons_zero, List.getElem_cons_succ]
      refine AnyU.take (i := 3) (v := ?_) (by kernel_rfl) (by decide) hClosed rfl (by kernel_rfl) (by kernel_rfl) (by kernel_rfl) (fun _ _ _ h => h) (Or.inl ⟨by rfl, ?_⟩) (by first | exact fun _ => hHeld | exact fun h => absurd h (by decide)) (fun hClosed2 => ?_)
      rotate_left
      · (intro w hSw; first | (go_simp; done) | (go_simp; with_reducible rfl))
      clear hClosed; have hClosed := hClosed2; clear hClosed2
      simp only [Act.put, List.setIfInBounds_toArray, List.set_cons_zero, List.set_cons_succ, List.getElem_toArray, List.getElem_cons_zero, List.getElem_cons_succ]
      refine AnyU.take (i := 4) (v := ?_) (by kernel_rfl) (by decide) hClosed rfl (by kernel_rfl) (by kernel_rfl) (by kernel_rfl) (fun _ _ _ h => h) (Or.inl ⟨by rfl, ?_⟩) (by first | exact fun _ => hHeld | exact fun h => absurd h (by decide)) (fun hClosed2 => ?_)
      rotate_left
      · (intro w hSw; first | (go_simp; done) | (go_simp; with_reducible rfl))
      clear hClosed; have hClosed := hClosed2; clear hClosed2
      simp only [Act.put, List.setIfInBounds_toArray, List.set_cons_zero, List.set_cons_succ, List.getElem_toArray, List.getElem_cons_zero, List.getElem_cons_succ]
      refine AnyU.take (i := 5) (v := ?_) (by kernel_rfl) (by decide) hClosed rfl (by kernel_rfl) (by kernel_rfl) (by kernel_rfl) (fun _ _ _ h => h) (Or.inl ⟨by rfl, ?_⟩) (by first | exact fun _ => hHeld | exact fun h => absurd h (by decide)) (fun hClosed2 => ?_)
      rotate_left
      · (intro w hSw; first | (go_simp; done) | (go_simp; with_reducible rfl))
      clear hClosed; have hClosed := hClosed2; clear hClosed2
      simp only [Act.put, List.setIfInBounds_toArray, List.set_cons_zero, List.set_cons_succ, List.getElem_toArray, List.getElem_cons_zero, List.getElem_cons_succ]
      refine AnyU.take (i := 6) (v := ?_) (by kernel_rfl) (by decide) hClosed rfl (by kernel_rfl) (by kernel_rfl) (by kernel_rfl) (fun _ _ _ h => h) (Or.inl ⟨by rfl, ?_⟩) (by first | exact fun _ => hHeld | exact fun h => absurd h (by decide)) (fun hClosed2 => ?_)
      rotate_left
      · (intro w hSw; first | (go_simp; done) | (go_simp; with_reducible rfl))
      clear hClosed; have hClosed := hClosed2; clear hClosed2
      simp only [Act.put, List.setIfInBounds_toArray, List.set_cons_zero, List.set_cons_succ, List.getElem_toArray, List.getElem_cons_zero, List.getElem_cons_succ]
      refine AnyU.take (i := 7) (v := ?_) (by kernel_rfl) (by decide) hClosed rfl (by kernel_rfl) (by kernel_rfl) (by kernel_rfl) (fun _ _ _ h => h) (Or.inl ⟨by rfl, ?_⟩) (by first | exact fun _ => hHeld | exact fun h => absurd h (by decide)) (fun hClosed2 => ?_)
      rotate_left
      · (intro w hSw; first | (go_simp; done) | (go_simp; with_reducible rfl))
      clear hClosed; have hClosed := hClosed2; clear hClosed2
      simp only [Act.put, List.setIfInBounds_toArray, List.set_cons_zero, List.set_cons_succ, List.getElem_toArray, List.getElem_cons_zero, List.getElem_cons_succ]
      refine AnyU.take (i := 9) (v := ?_) (by kernel_rfl) (by decide) hClosed rfl (by kernel_rfl) (by kernel_rfl) (by kernel_rfl) (fun _ _ _ h => h) (Or.inl ⟨by rfl, ?_⟩) (by first | exact fun _ => hHeld | exact fun h => absurd h (by decide)) (fun hClosed2 => ?_)
      rotate_left
      · (intro w hSw; first | (go_simp; done) | (go_simp; with_reducible rfl))
      clear hClosed; have hClosed := hClosed2; clear hClosed2
      simp only [Act.put, List.setIfInBounds_toArray, List.set_cons_zero, List.set_cons_succ, List.getElem_toArray, List.getElem_cons_zero, List.getElem_cons_succ]
      refine AnyU.each (is := [8]) (by kernel_rfl) (by simp) (EachU.cons hClosed (by kernel_rfl) rfl (fun K hK => ?_) EachU.nil)
      try simp only [List.getElem_toArray, List.getElem_cons_zero, List.getElem_cons_succ]
      go_simp
      refine (HBK.out _).mono ?_
      rintro e w2 ⟨rfl, hb2⟩
      have HB2 : Hid (Below W0.heap.size W0 w2) := blN (blD (Below.refl _ _)) hb2
      have HBW2 := Lib.hid (blN HB0.out HB2.out)
      clear hb2
      try simp only
      refine hK.out _ _ (fun _ => ?hkS) (fun hHeld2 hClosed2 => ?_)
      case hkS =>
        exact HS0.out _ HB2.out
      clear hHeld; have hHeld := hHeld2 (by decide)
      clear hK K hHeld2 hClosed; have hClosed := hClosed2; clear hClosed2
      try simp only [Act.put, List.setIfInBounds_toArray, List.set_cons_zero, List.set_cons_succ, List.getElem_toArray, List.getElem_cons_zero, List.getElem_cons_succ]
      refine AnyU.each (is := [10]) (by kernel_rfl) (by simp) (EachU.cons hClosed (by kernel_rfl) rfl (fun K hK => ?_) EachU.nil)
      try simp only [List.getElem_toArray, List.getElem_cons_zero, List.getElem_cons_succ]
      go_simp
      refine (HW2.out _ HBW2.out).mono ?_
      rintro e w3 ⟨v, rfl, ⟨hi3, hs3⟩, hf3⟩
      try simp only
      refine hK.out _ _ (fun h => absurd h (by decide)) (fun _ hClosed2 => ?_)
      clear hK K hClosed; have hClosed := hClosed2; clear hClosed2
      try simp only [Act.put, List.setIfInBounds_toArray, List.set_cons_zero, List.set_cons_succ, List.getElem_toArray, List.getElem_cons_zero, List.getElem_cons_succ]
      refine AnyU.pure (i := 11) (v := ?_) (by decide) hClosed rfl (by kernel_rfl) (by kernel_rfl) (by kernel_rfl) (fun _ _ _ h => h) (Or.inl ⟨by rfl, ?_⟩) (by first | exact fun _ => hHeld | exact fun h => absurd h (by decide)) (fun hClosed2 => ?_)
      rotate_left
      · (intro w hSw; first | (go_simp; done) | (go_simp; with_reducible rfl))
      clear hClosed; have hClosed := hClosed2; clear hClosed2
      simp only [Act.put, List.setIfInBounds_toArray, List.set_cons_zero, List.set_cons_succ, List.getElem_toArray, List.getElem_cons_zero, List.getElem_cons_succ]
      refine AnyU.pure (i := 12) (v := ?_) (by decide) hClosed rfl (by kernel_rfl) (by kernel_rfl) (by kernel_rfl) (fun _ _ _ h => h) (Or.inl ⟨by rfl, ?_⟩) (by first | exact fun _ => hHeld | exact fun h => absurd h (by decide)) (fun hClosed2 => ?_)
      rotate_left
      · (intro w hSw; first | (go_simp; done) | (go_simp; with_reducible rfl))
      clear hClosed; have hClosed := hClosed2; clear hClosed2
      simp only [Act.put, List.setIfInBounds_toArray, List.set_cons_zero, List.set_cons_succ, List.getElem_toArray, List.getElem_cons_zero, List.getElem_cons_succ]
      refine AnyU.pure (i := 13) (v := ?_) (by decide) hClosed rfl (by kernel_rfl) (by kernel_rfl) (by kernel_rfl) (fun _ _ _ h => h) (Or.inl ⟨by rfl, ?_⟩) (by first | exact fun _ => hHeld | exact fun h => absurd h (by decide)) (fun hClosed2 => ?_)
      rotate_left
      · (intro w hSw; first | (go_simp; done) | (go_simp; with_reducible rfl))
      clear hClosed; have hClosed := hClosed2; clear hClosed2
      simp only [Act.put, List.setIfInBounds_toArray, List.set_cons_zero, List.set_cons_succ, List.getElem_toArray, List.getElem_cons_zero, List.getElem_cons_succ]
      refine AnyU.pure (i := 14) (v := ?_) (by decide) hClosed rfl (by kernel_rfl) (by kernel_rfl) (by kernel_rfl) (fun _ _ _ h => h) (Or.inl ⟨by rfl, ?_⟩) (by first | exact fun _ => hHeld | exact fun h => absurd h (by decide)) (fun hClosed2 => ?_)
      rotate_left
      · (intro w hSw; first | (go_simp; done) | (go_simp; with_reducible rfl))
      clear hClosed; have hClosed := hClosed2; clear hClosed2
      simp only [Act.put, List.setIfInBounds_toArray, List.set_cons_zero, List.set_cons_succ, List.getElem_toArray, List.getElem_cons_zero, List.getElem_cons_succ]
      refine AnyU.pure (i := 15) (v := ?_) (by decide) hClosed rfl (by kernel_rfl) (by kernel_rfl) (by kernel_rfl) (fun _ _ _ h => h) (Or.inl ⟨by rfl, ?_⟩) (by first | exact fun _ => hHeld | exact fun h => absurd h (by decide)) (fun hClosed2 => ?_)
      rotate_left
      · (intro w hSw; first | (go_simp; done) | (go_simp; with_reducible rfl))
      clear hClosed; have hClosed := hClosed2; clear hClosed2
      simp only [Act.put, List.setIfInBounds_toArray, List.set_cons_zero, List.set_cons_succ, List.getElem_toArray, List.getElem_cons_zero, List.getElem_cons_succ]
      refine AnyU.done (by kernel_rfl) ?_ _
      have HS3 := Lib.hid hs3
      have HI3 := Lib.hid hi3
      have HF3 := Lib.hid hf3
      obtain ⟨hsd3, K, hK, hT3⟩ := hs3
      obtain ⟨hg3, ho3⟩ := hDO.out _ _ K HBW2.out hK hT3 (heapOld HB2.out HZ0.out) (heapOld HB2.out HO0.out)
      have HSD3 := Lib.hid hsd3
      have HG3 := Lib.hid hg3
      have HO3 := Lib.hid ho3
      have z0 := cellOf (k := 0) HG3.out rfl
      have z1 := cellOf (k := 1) HG3.out rfl
      have z2 := cellOf (k := 2) HG3.out rfl
      clear hHeld hClosed hS0 hsd3 hg3 ho3 hi3 hT3 hf3
      go_wp2_with fail
      clear z0 z1 z2
      refine (HLO.out w3 _ HSD3.out).mono ?_
      rintro e w4 ⟨rfl, hb4⟩
      obtain ⟨W5, hW5⟩ : ∃ W, w4.alloc (.cells #[.int .i64 n0, .int .i64 n1, .int .i64 n2, .int .i64 n3, .int .i64 n4, .int .i64 d0, .int .i64 d1, .int .i64 d2, .int .i64 d3, .int .i64 d4, .int .i64 d5, .int .i64 d6, .int .i64 d7, .int .i64 n5] 56) = W := ⟨_, rfl⟩
      have HB5 : Hid (Below w3.heap.size w3 W5) := blN hb4 (by rw [← hW5]; exact bl2 _)
      have HZ5 : Hid (W5.heap[w4.heap.size]? = some (.cells #[.int .i64 n0, .int .i64 n1, .int .i64 n2, .int .i64 n3, .int .i64 n4, .int .i64 d0, .int .i64 d1, .int .i64 d2, .int .i64 d3, .int .i64 d4, .int .i64 d5, .int .i64 d6, .int .i64 d7, .int .i64 n5] 56 (0, 0))) := by rw [← hW5]; exact heapNew w4 _
      have HG5 := Lib.hid (heapOld HB5.out HG3.out)
      have z0 := cellOf (k := 0) HG5.out rfl
      have z1 := cellOf (k := 1) HG5.out rfl
      have z2 := cellOf (k := 2) HG5.out rfl
      have y0 := cellOf (k := 0) HZ5.out rfl
      have y1 := cellOf (k := 1) HZ5.out rfl
      have y2 := cellOf (k := 2) HZ5.out rfl
      have y3 := cellOf (k := 3) HZ5.out rfl
      have y4 := cellOf (k := 4) HZ5.out rfl
      have y5 := cellOf (k := 5) HZ5.out rfl
      have y6 := cellOf (k := 6) HZ5.out rfl
      have y7 := cellOf (k := 7) HZ5.out rfl
      have y8 := cellOf (k := 8) HZ5.out rfl
      have y9 := cellOf (k := 9) HZ5.out rfl
      have y10 := cellOf (k := 10) HZ5.out rfl
      have y11 := cellOf (k := 11) HZ5.out rfl
      have y12 := cellOf (k := 12) HZ5.out rfl
      have y13 := cellOf (k := 13) HZ5.out rfl
      clear hb4
      go_wp2_with fail
      clear z0 z1 z2 y0 y1 y2 y3 y4 y5 y6 y7 y8 y9 y10 y11 y12 y13 hW5
      refine (HBL.out W5 _ (HSD3.out.below HB5.out)).mono ?_
      rintro e w6 ⟨v6, rfl, ho6, hb6⟩
      have HB6 : Hid (Below w3.heap.size w3 w6) := blN HB5.out hb6
      have hrow := OwnR.row (f := intC) (size := 1) (fun _ _ => rfl) ho6
      obtain ⟨ad, m, cap, rfl, HM, hm2, HFC⟩ := RowAt.facts hrow
      have hm40 : m = 40 := HM.out.trans HFile.out.1
      subst hm40
      obtain ⟨bb, oo, x, rfl, hblt, hx, hcx⟩ := HFC.out q hq39
      rw [HFile.out.2] at hx
      cases hx
      have hcx2 := hcx 0 _ rfl
      rw [Nat.mul_one, Nat.add_zero] at hcx2
      have HX2 : Hid (w6.cell? ⟨bb, oo + q, none⟩ = some (.int .i64 b)) := hcx2
      have hcap : 40 ≤ cap ∧ cap ≤ 9223372036854775807 := by
        obtain ⟨_, cap', e', h1, h2, _⟩ := hrow
        injection e' with _ _ e3
        subst e3
        rw [List.length_map, HFile.out.1] at h1
        unfold maxLen at h2
        omega
      have HFin := Lib.hid (HF.out v w2 w6.drew HBW2.out (HI3.out.below (blD HB6.out)) (HS3.out.behind (blD HB6.out)) (HF3.out.move HBW2.out (blD HB6.out)))
      have hS7 : w6.drew.cell? ⟨Bo, 2, none⟩ = some (.int .i64 z) ∧ w6.drew.cell? ⟨bb, oo + q, none⟩ = some (.int .i64 b) := ⟨cellOf (k := 2) (heapOld (blD HB6.out) HO3.out) hcs, HX2.out⟩
      clear hb6 ho6 hrow hcx hcx2 hblt HFC
      go_wp2
      have hwq : IntKind.i64.wrap (q : Int) = (q : Int) := by simp [IntKind.wrap, IntKind.bits, IntKind.signed]; omega
      have hqi : (q : Int) < 40 := by omega
      refine wp_region_held_drew (S := (fun W => W.cell? ⟨Bo, 2, none⟩ = some (.int .i64 z) ∧ W.cell? ⟨bb, oo + q, none⟩ = some (.int .i64 b))) (by kernel_rfl) (by first | trivial | assumption) (fun hHeld => ?_)
      refine wpAnyH_take (i := 0) (v := ?_) rfl (by kernel_rfl) (by kernel_rfl) (by kernel_rfl) (fun _ _ _ h => h) (Or.inl ⟨by rfl, ?_⟩) hHeld ?_
      rotate_left
      · (intro w hSw; first | (go_simp; done) | (go_simp; with_reducible rfl))
      simp only [Act.put, List.setIfInBounds_toArray, List.set_cons_zero, List.set_cons_succ, List.getElem_toArray, List.getElem_cons_zero]
      refine wpAnyH_take (i := 1) (v := ?_) rfl (by kernel_rfl) (by kernel_rfl) (by kernel_rfl) (fun _ _ _ h => h) (Or.inl ⟨by rfl, ?_⟩) hHeld ?_
      rotate_left
      · (intro w hSw; first | (go_simp; done) | (go_simp; with_reducible rfl))
      simp only [Act.put, List.setIfInBounds_toArray, List.set_cons_zero, List.set_cons_succ, List.getElem_toArray, List.getElem_cons_zero, List.getElem_cons_succ]
      refine wpAnyH_take (i := 2) (v := ?_) rfl (by kernel_rfl) (by kernel_rfl) (by kernel_rfl) (fun _ _ _ h => h) (Or.inl ⟨by rfl, ?_⟩) hHeld ?_
      rotate_left
      · (intro w hSw; first | (go_simp; done) | (go_simp; with_reducible rfl))
      simp only [Act.put, List.setIfInBounds_toArray, List.set_cons_zero, List.set_cons_succ, List.getElem_toArray, List.getElem_cons_zero, List.getElem_cons_succ]
      refine wpAnyH_take (i := 3) (v := ?_) rfl (by kernel_rfl) (by kernel_rfl) (by kernel_rfl) (fun _ _ _ h => h) (Or.inl ⟨by rfl, ?_⟩) hHeld ?_
      rotate_left
      · (intro w hSw; first | (go_simp; done) | (go_simp; with_reducible rfl))
      simp only [Act.put, List.setIfInBounds_toArray, List.set_cons_zero, List.set_cons_succ, List.getElem_toArray, List.getElem_cons_zero, List.getElem_cons_succ]
      refine wpAnyH_take (i := 4) (v := ?_) rfl (by kernel_rfl) (by kernel_rfl) (by kernel_rfl) (fun _ _ _ h => h) (Or.inl ⟨by rfl, ?_⟩) hHeld ?_
      rotate_left
      · (intro w hSw; first | (go_simp; done) | (go_simp; with_reducible rfl))
      simp only [Act.put, List.setIfInBounds_toArray, List.set_cons_zero, List.set_cons_succ, List.getElem_toArray, List.getElem_cons_zero, List.getElem_cons_succ]
      refine wpAnyH_take (i := 5) (v := ?_) rfl (by kernel_rfl) (by kernel_rfl) (by kernel_rfl) (fun _ _ _ h => h) (Or.inl ⟨by rfl, ?_⟩) hHeld ?_
      rotate_left
      · (intro w hSw; first | (go_simp; done) | (go_simp; with_reducible rfl))
      simp only [Act.put, List.setIfInBounds_toArray, List.set_cons_zero, List.set_cons_succ, List.getElem_toArray, List.getElem_cons_zero, List.getElem_cons_succ]
      refine wpAnyH_take (i := 6) (v := ?_) rfl (by kernel_rfl) (by kernel_rfl) (by kernel_rfl) (fun _ _ _ h => h) (Or.inl ⟨by rfl, ?_⟩) hHeld ?_
      rotate_left
      · (intro w hSw; first | (go_simp; done) | (go_simp; with_reducible rfl))
      simp only [Act.put, List.setIfInBounds_toArray, List.set_cons_zero, List.set_cons_succ, List.getElem_toArray, List.getElem_cons_zero, List.getElem_cons_succ]
      refine wpAnyH_take (i := 7) (v := ?_) rfl (by kernel_rfl) (by kernel_rfl) (by kernel_rfl) (fun _ _ _ h => h) (Or.inl ⟨by rfl, ?_⟩) hHeld ?_
      rotate_left
      · (intro w hSw; first | (go_simp; done) | (go_simp; with_reducible rfl))
      simp only [Act.put, List.setIfInBounds_toArray, List.set_cons_zero, List.set_cons_succ, List.getElem_toArray, List.getElem_cons_zero, List.getElem_cons_succ]
      refine wpAnyH_take (i := 8) (v := ?_) rfl (by kernel_rfl) (by kernel_rfl) (by kernel_rfl) (fun _ _ _ h => h) (Or.inl ⟨by rfl, ?_⟩) hHeld ?_
      rotate_left
      · (intro w hSw; first | (go_simp; done) | (go_simp; with_reducible rfl))
      simp only [Act.put, List.setIfInBounds_toArray, List.set_cons_zero, List.set_cons_succ, List.getElem_toArray, List.getElem_cons_zero, List.getElem_cons_succ]
      refine wpAnyH_take (i := 9) (v := ?_) rfl (by kernel_rfl) (by kernel_rfl) (by kernel_rfl) (fun _ _ _ h => h) (Or.inl ⟨by rfl, ?_⟩) hHeld ?_
      rotate_left
      · (intro w hSw; first | (go_simp; done) | (go_simp; with_reducible rfl))
      simp only [Act.put, List.setIfInBounds_toArray, List.set_cons_zero, List.set_cons_succ, List.getElem_toArray, List.getElem_cons_zero, List.getElem_cons_succ]
      refine wpAnyH_take (i := 10) (v := ?_) rfl (by kernel_rfl) (by kernel_rfl) (by kernel_rfl) (fun _ _ _ h => h) (Or.inl ⟨by rfl, ?_⟩) hHeld ?_
      rotate_left
      · (intro w hSw; first | (go_simp; done) | (go_simp; with_reducible rfl))
      simp only [Act.put, List.setIfInBounds_toArray, List.set_cons_zero, List.set_cons_succ, List.getElem_toArray, List.getElem_cons_zero, List.getElem_cons_succ]
      refine wpAnyH_take (i := 11) (v := ?_) rfl (by kernel_rfl) (by kernel_rfl) (by kernel_rfl) (fun _ _ _ h => h) (Or.inl ⟨by rfl, ?_⟩) hHeld ?_
      rotate_left
      · (intro w hSw; first | (go_simp; done) | (go_simp; with_reducible rfl))
      simp only [Act.put, List.setIfInBounds_toArray, List.set_cons_zero, List.set_cons_succ, List.getElem_toArray, List.getElem_cons_zero, List.getElem_cons_succ]
      refine wpAnyH_take (i := 12) (v := ?_) rfl (by kernel_rfl) (by kernel_rfl) (by kernel_rfl) (fun _ _ _ h => h) (Or.inl ⟨by rfl, ?_⟩) hHeld ?_
      rotate_left
      · (intro w hSw; first | (go_simp; done) | (go_simp; with_reducible rfl))
      simp only [Act.put, List.setIfInBounds_toArray, List.set_cons_zero, List.set_cons_succ, List.getElem_toArray, List.getElem_cons_zero, List.getElem_cons_succ]
      refine wpAnyH_done (by kernel_rfl) ?_ _
      go_wp2
      first | exact HFin.out | (go_ret2; exact HFin.out)
    · have HF : Hid (∀ W, Turn D w W → Q (.returned (.tuple #[.slice none 0 0, .int .i64 0, .int .i64 c])) W) := fun W hW => by rw [← hQ]; exact Or.inr (Or.inl ⟨hq39, hc0, rfl, hW⟩)
      have hw2 : ∀ W, Below w.heap.size w W → Calls Tryz.prog 28 #[pt B, gV g, .int .i64 i, .int .i64 z, .string Sp.blank, vk] W fun e w' => e = .returned (.tuple #[.slice none 0 0, .int .i64 c]) ∧ Turn D w w' := fun W hW => (hwr W hW).mono (fun e w' hp => by
        rcases hp with ⟨h0, _⟩ | ⟨_, he, hT⟩
        · exact absurd h0 hc0
        · exact ⟨he, (Turn.of_below (K := D) hW).trans hT (fun _ _ h => h) (fun _ _ h => h)⟩)
      rw [hQ]
      obtain ⟨ga, gb, gc⟩ := g
      unfold gV pt at *
      dsimp only at hW0 HS0 hw2 ⊢
      have HW2 := Lib.hid hw2
      have HBK := Lib.hid hbk
      clear hw2 hbk
      clear h hD hs hv hks hst hc ht hQ HZ0 hq4 hz hwr hlast hkind hnn hoD
      go_enter Tryz.func112, Tryz.ntmps112
      go_wp2
      clear x2 hW0
      have hS0 := HS0.out W0.drew (blD (Below.refl _ _))
      refine wp_region_last (fun W => W.cell? ⟨w.heap.size, 0, none⟩ = some (.int .i64 ga) ∧ W.cell? ⟨w.heap.size, 1, none⟩ = some (.int .i64 gb) ∧ W.cell? ⟨w.heap.size, 2, none⟩ = some (.int .i64 gc) ∧ W.cell? ⟨Bo, 2, none⟩ = some (.int .i64 z)) 10 (by kernel_rfl) (by first | trivial | assumption) (fun hHeld hClosed => ?_)
      refine AnyU.take (i := 0) (v := ?_) (by kernel_rfl) (by decide) hClosed rfl (by kernel_rfl) (by kernel_rfl) (by kernel_rfl) (fun _ _ _ h => h) (Or.inl ⟨by rfl, ?_⟩) (by first | exact fun _ => hHeld | exact fun h => absurd h (by decide)) (fun hClosed2 => ?_)
      rotate_left
      · (intro w hSw; first | (go_simp; done) | (go_simp; with_reducible rfl))
      clear hClosed; have hClosed := hClosed2; clear hClosed2
      simp only [Act.put, List.setIfInBounds_toArray, List.set_cons_zero, List.set_cons_succ, List.getElem_toArray, List.getElem_cons_zero]
      refine AnyU.take (i := 1) (v := ?_) (by kernel_rfl) (by decide) hClosed rfl (by kernel_rfl) (by kernel_rfl) (by kernel_rfl) (fun _ _ _ h => h) (Or.inl ⟨by rfl, ?_⟩) (by first | exact fun _ => hHeld | exact fun h => absurd h (by decide)) (fun hClosed2 => ?_)
      rotate_left
      · (intro w hSw; first | (go_simp; done) | (go_simp; with_reducible rfl))
      clear hClosed; have hClosed := hClosed2; clear hClosed2
      simp only [Act.put, List.setIfInBounds_toArray, List.set_cons_zero, List.set_cons_succ, List.getElem_toArray, List.getElem_cons_zero, List.getElem_cons_succ]
      refine AnyU.take (i := 2) (v := ?_) (by kernel_rfl) (by decide) hClosed rfl (by kernel_rfl) (by kernel_rfl) (by kernel_rfl) (fun _ _ _ h => h) (Or.inl ⟨by rfl, ?_⟩) (by first | exact fun _ => hHeld | exact fun h => absurd h (by decide)) (fun hClosed2 => ?_)
      rotate_left
      · (intro w hSw; first | (go_simp; done) | (go_simp; with_reducible rfl))
      clear hClosed; have hClosed := hClosed2; clear hClosed2
      simp only [Act.put, List.setIfInBounds_toArray, List.set_cons_zero, List.set_cons_succ, List.getElem_toArray, List.getElem_cons_zero, List.getElem_cons_succ]
      refine AnyU.take (i := 3) (v := ?_) (by kernel_rfl) (by decide) hClosed rfl (by kernel_rfl) (by kernel_rfl) (by kernel_rfl) (fun _ _ _ h => h) (Or.inl ⟨by rfl, ?_⟩) (by first | exact fun _ => hHeld | exact fun h => absurd h (by decide)) (fun hClosed2 => ?_)
      rotate_left
      · (intro w hSw; first | (go_simp; done) | (go_simp; with_reducible rfl))
      clear hClosed; have hClosed := hClosed2; clear hClosed2
      simp only [Act.put, List.setIfInBounds_toArray, List.set_cons_zero, List.set_cons_succ, List.getElem_toArray, List.getElem_cons_zero, List.getElem_cons_succ]
      refine AnyU.take (i := 4) (v := ?_) (by kernel_rfl) (by decide) hClosed rfl (by kernel_rfl) (by kernel_rfl) (by kernel_rfl) (fun _ _ _ h => h) (Or.inl ⟨by rfl, ?_⟩) (by first | exact fun _ => hHeld | exact fun h => absurd h (by decide)) (fun hClosed2 => ?_)
      rotate_left
      · (intro w hSw; first | (go_simp; done) | (go_simp; with_reducible rfl))
      clear hClosed; have hClosed := hClosed2; clear hClosed2
      simp only [Act.put, List.setIfInBounds_toArray, List.set_cons_zero, List.set_cons_succ, List.getElem_toArray, List.getElem_cons_zero, List.getElem_cons_succ]
      refine AnyU.take (i := 5) (v := ?_) (by kernel_rfl) (by decide) hClosed rfl (by kernel_rfl) (by kernel_rfl) (by kernel_rfl) (fun _ _ _ h => h) (Or.inl ⟨by rfl, ?_⟩) (by first | exact fun _ => hHeld | exact fun h => absurd h (by decide)) (fun hClosed2 => ?_)
      rotate_left
      · (intro w hSw; first | (go_simp; done) | (go_simp; with_reducible rfl))
      clear hClosed; have hClosed := hClosed2; clear hClosed2
      simp only [Act.put, List.setIfInBounds_toArray, List.set_cons_zero, List.set_cons_succ, List.getElem_toArray, List.getElem_cons_zero, List.getElem_cons_succ]
      refine AnyU.take (i := 6) (v := ?_) (by kernel_rfl) (by decide) hClosed rfl (by kernel_rfl) (by kernel_rfl) (by kernel_rfl) (fun _ _ _ h => h) (Or.inl ⟨by rfl, ?_⟩) (by first | exact fun _ => hHeld | exact fun h => absurd h (by decide)) (fun hClosed2 => ?_)
      rotate_left
      · (intro w hSw; first | (go_simp; done) | (go_simp; with_reducible rfl))
      clear hClosed; have hClosed := hClosed2; clear hClosed2
      simp only [Act.put, List.setIfInBounds_toArray, List.set_cons_zero, List.set_cons_succ, List.getElem_toArray, List.getElem_cons_zero, List.getElem_cons_succ]
      refine AnyU.take (i := 7) (v := ?_) (by kernel_rfl) (by decide) hClosed rfl (by kernel_rfl) (by kernel_rfl) (by kernel_rfl) (fun _ _ _ h => h) (Or.inl ⟨by rfl, ?_⟩) (by first | exact fun _ => hHeld | exact fun h => absurd h (by decide)) (fun hClosed2 => ?_)
      rotate_left
      · (intro w hSw; first | (go_simp; done) | (go_simp; with_reducible rfl))
      clear hClosed; have hClosed := hClosed2; clear hClosed2
      simp only [Act.put, List.setIfInBounds_toArray, List.set_cons_zero, List.set_cons_succ, List.getElem_toArray, List.getElem_cons_zero, List.getElem_cons_succ]
      refine AnyU.take (i := 9) (v := ?_) (by kernel_rfl) (by decide) hClosed rfl (by kernel_rfl) (by kernel_rfl) (by kernel_rfl) (fun _ _ _ h => h) (Or.inl ⟨by rfl, ?_⟩) (by first | exact fun _ => hHeld | exact fun h => absurd h (by decide)) (fun hClosed2 => ?_)
      rotate_left
      · (intro w hSw; first | (go_simp; done) | (go_simp; with_reducible rfl))
      clear hClosed; have hClosed := hClosed2; clear hClosed2
      simp only [Act.put, List.setIfInBounds_toArray, List.set_cons_zero, List.set_cons_succ, List.getElem_toArray, List.getElem_cons_zero, List.getElem_cons_succ]
      refine AnyU.each (is := [8]) (by kernel_rfl) (by simp) (EachU.cons hClosed (by kernel_rfl) rfl (fun K hK => ?_) EachU.nil)
      try simp only [List.getElem_toArray, List.getElem_cons_zero, List.getElem_cons_succ]
      go_simp
      refine (HBK.out _).mono ?_
      rintro e w2 ⟨rfl, hb2⟩
      have HB2 : Hid (Below W0.heap.size W0 w2) := blN (blD (Below.refl _ _)) hb2
      clear hb2
      try simp only
      refine hK.out _ _ (fun _ => ?hkS) (fun hHeld2 hClosed2 => ?_)
      case hkS =>
        exact HS0.out _ HB2.out
      clear hHeld; have hHeld := hHeld2 (by decide)
      clear hK K hHeld2 hClosed; have hClosed := hClosed2; clear hClosed2
      try simp only [Act.put, List.setIfInBounds_toArray, List.set_cons_zero, List.set_cons_succ, List.getElem_toArray, List.getElem_cons_zero, List.getElem_cons_succ]
      refine AnyU.each (is := [10]) (by kernel_rfl) (by simp) (EachU.cons hClosed (by kernel_rfl) rfl (fun K hK => ?_) EachU.nil)
      try simp only [List.getElem_toArray, List.getElem_cons_zero, List.getElem_cons_succ]
      go_simp
      refine (HW2.out _ (blN HB0.out HB2.out)).mono ?_
      rintro e w3 ⟨rfl, hT3⟩
      try simp only
      refine hK.out _ _ (fun h => absurd h (by decide)) (fun _ hClosed2 => ?_)
      clear hK K hClosed; have hClosed := hClosed2; clear hClosed2
      try simp only [Act.put, List.setIfInBounds_toArray, List.set_cons_zero, List.set_cons_succ, List.getElem_toArray, List.getElem_cons_zero, List.getElem_cons_succ]
      refine AnyU.pure (i := 11) (v := ?_) (by decide) hClosed rfl (by kernel_rfl) (by kernel_rfl) (by kernel_rfl) (fun _ _ _ h => h) (Or.inl ⟨by rfl, ?_⟩) (by first | exact fun _ => hHeld | exact fun h => absurd h (by decide)) (fun hClosed2 => ?_)
      rotate_left
      · (intro w hSw; first | (go_simp; done) | (go_simp; with_reducible rfl))
      clear hClosed; have hClosed := hClosed2; clear hClosed2
      simp only [Act.put, List.setIfInBounds_toArray, List.set_cons_zero, List.set_cons_succ, List.getElem_toArray, List.getElem_cons_zero, List.getElem_cons_succ]
      refine AnyU.pure (i := 12) (v := ?_) (by decide) hClosed rfl (by kernel_rfl) (by kernel_rfl) (by kernel_rfl) (fun _ _ _ h => h) (Or.inl ⟨by rfl, ?_⟩) (by first | exact fun _ => hHeld | exact fun h => absurd h (by decide)) (fun hClosed2 => ?_)
      rotate_left
      · (intro w hSw; first | (go_simp; done) | (go_simp; with_reducible rfl))
      clear hClosed; have hClosed := hClosed2; clear hClosed2
      simp only [Act.put, List.setIfInBounds_toArray, List.set_cons_zero, List.set_cons_succ, List.getElem_toArray, List.getElem_cons_zero, List.getElem_cons_succ]
      refine AnyU.pure (i := 13) (v := ?_) (by decide) hClosed rfl (by kernel_rfl) (by kernel_rfl) (by kernel_rfl) (fun _ _ _ h => h) (Or.inl ⟨by rfl, ?_⟩) (by first | exact fun _ => hHeld | exact fun h => absurd h (by decide)) (fun hClosed2 => ?_)
      rotate_left
      · (intro w hSw; first | (go_simp; done) | (go_simp; with_reducible rfl))
      clear hClosed; have hClosed := hClosed2; clear hClosed2
      simp only [Act.put, List.setIfInBounds_toArray, List.set_cons_zero, List.set_cons_succ, List.getElem_toArray, List.getElem_cons_zero, List.getElem_cons_succ]
      refine AnyU.pure (i := 14) (v := ?_) (by decide) hClosed rfl (by kernel_rfl) (by kernel_rfl) (by kernel_rfl) (fun _ _ _ h => h) (Or.inl ⟨by rfl, ?_⟩) (by first | exact fun _ => hHeld | exact fun h => absurd h (by decide)) (fun hClosed2 => ?_)
      rotate_left
      · (intro w hSw; first | (go_simp; done) | (go_simp; with_reducible rfl))
      clear hClosed; have hClosed := hClosed2; clear hClosed2
      simp only [Act.put, List.setIfInBounds_toArray, List.set_cons_zero, List.set_cons_succ, List.getElem_toArray, List.getElem_cons_zero, List.getElem_cons_succ]
      refine AnyU.pure (i := 15) (v := ?_) (by decide) hClosed rfl (by kernel_rfl) (by kernel_rfl) (by kernel_rfl) (fun _ _ _ h => h) (Or.inl ⟨by rfl, ?_⟩) (by first | exact fun _ => hHeld | exact fun h => absurd h (by decide)) (fun hClosed2 => ?_)
      rotate_left
      · (intro w hSw; first | (go_simp; done) | (go_simp; with_reducible rfl))
      clear hClosed; have hClosed := hClosed2; clear hClosed2
      simp only [Act.put, List.setIfInBounds_toArray, List.set_cons_zero, List.set_cons_succ, List.getElem_toArray, List.getElem_cons_zero, List.getElem_cons_succ]
      refine AnyU.done (by kernel_rfl) ?_ _
      have HF3 := Lib.hid (HF.out w3 hT3)
      have hc1 : (c != 0) = true := by simp [hc0]
      have hc2 : (c == 0) = false := by simp [hc0]
      clear hT3 hHeld hClosed hS0
      go_wp2
      first | exact HF3.out | (go_ret2; exact HF3.out)
end
end Go.Proofs.YtaphcmcimoloiaaGreatDoor
namespace Go.Proofs.YtaphcmcimoloiaaGreatDoor
open Go Go.RowKit Txt Sp

def RemovePost (w : World) (base B Bd : Nat) (S : Sp.Side) (D : Nat → Prop) (es : List Ent) (name : ByteArray) (ahead : List Int) (e : Ending) (w' : World) : Prop :=
  (findC es name ≠ 0 ∧ e = .returned (.tuple #[.int .i64 0, .int .i64 (findC es name)]) ∧ Below w.heap.size w w') ∨
  ∃ x, findC es name = 0 ∧ findR es name = some x ∧ DPutPost w base B Bd S D x.sec x.slot ⟨0, ⟨#[]⟩⟩ ahead e w'
theorem ents_slot {V : Int → ByteArray} {l : List Int} {x : Ent} (h : x ∈ l.flatMap (entsB V)) : x.slot < 4 := by
  obtain ⟨b, _, hb⟩ := List.mem_flatMap.1 h
  unfold entsB entOf at hb
  simp only [List.mem_cons, List.not_mem_nil, or_false] at hb
  rcases hb with rfl | rfl | rfl | rfl <;> simp
theorem findR_mem {es : List Ent} {name : ByteArray} {x : Ent} (h : findR es name = some x) : x ∈ es ∧ x.name = name := by
  unfold findR findE at h
  split at h
  · exact ⟨List.mem_of_find?_eq_some h, by simpa using List.find?_some h⟩
  · cases h
theorem findC_some {es : List Ent} {name : ByteArray} (h : findC es name = 0) : ∃ x, findR es name = some x := by
  unfold findC at h
  unfold findR
  split at h
  · rename_i hn
    rw [if_pos hn]
    split at h
    · rename_i hs
      exact Option.isSome_iff_exists.1 hs
    · cases h
  · cases h
section
set_option maxHeartbeats 4000000
set_option maxRecDepth 20000 in
theorem dirRemove_any {w : World} {base Bs Bd : Nat} {S : Sp.Side} {D : Nat → Prop} (h : SideAt w base Bs Bd S D) {g : Sp.Geom} {i : Int} {F : File} (hs : Stands S g i F) (hd : DirOk S.read F) (hb : ∀ b ∈ F.blocks, 0 ≤ b) (hh : ∀ b ∈ dirBlks F, S.disk.has b) (hm : MaxOk w) (name : ByteArray) (hnm : name.size ≤ 9223372036854775807)
    (hlast : S.deps.last < 1000000000) (v : Value) (ahead : List Int) (hv : Ints w v ahead) (hal : ahead.length ≤ 100000) :
    Calls Tryz.prog 35 #[pt Bs, gV g, .int .i64 i, .string name, v] w (RemovePost w base Bs Bd S D (ents S.read F) name ahead) := by
  have hfi := fun (W : World) (hW : Below w.heap.size w W) => dirFind_any (h.below hW) hs hd hb hh (hm.below hW) name hnm
  have hx0 : (⟨0, ⟨#[]⟩⟩ : Sp.Entry).may := Or.inl ⟨rfl, rfl⟩
  have hpu := fun (W : World) (hW : Below w.heap.size w W) (a : Int) (k : Nat) (hk : k < 4) => dput_any (h.below hW) hs.ok hlast (hm.below hW) a k hk ⟨0, ⟨#[]⟩⟩ hx0 v ahead (hv.below hW) hal
  obtain ⟨es, hes⟩ : ∃ es, ents S.read F = es := ⟨_, rfl⟩
  have hsl : ∀ x ∈ es, x.slot < 4 := fun x hx => by rw [← hes] at hx; exact ents_slot hx
  rw [hes] at hfi ⊢
  obtain ⟨c, hc⟩ : ∃ c, findC es name = c := ⟨_, rfl⟩
  obtain ⟨r, hr⟩ : ∃ r, findR es name = r := ⟨_, rfl⟩
  have hsome : c = 0 → ∃ x, r = some x ∧ x.slot < 4 := fun h0 => by
    obtain ⟨x, hx⟩ := findC_some (hc.trans h0)
    exact ⟨x, hr.symm.trans hx, hsl x (findR_mem hx).1⟩
  unfold FindPost at hfi
  rw [hc, hr] at hfi
  obtain ⟨Q, hQ⟩ : ∃ Q, RemovePost w base Bs Bd S D es name ahead = Q := ⟨_, rfl⟩
  have HF1 : Hid (c ≠ 0 → ∀ W, Below w.heap.size w W → Q (.returned (.tuple #[.int .i64 0, .int .i64 c])) W) := fun h0 W hW => by rw [← hQ]; exact Or.inl ⟨by rw [hc]; exact h0, by rw [hc], hW⟩
  have HF2 : Hid (∀ x W e W', c = 0 → r = some x → Below w.heap.size w W → DPutPost W base Bs Bd S D x.sec x.slot ⟨0, ⟨#[]⟩⟩ ahead e W' → Q e W') := fun x W e W' h0 h1 hW hp => by rw [← hQ]; exact Or.inr ⟨x, hc.trans h0, hr.trans h1, hp.1, hp.2.ahead hW⟩
  rw [hQ]
  obtain ⟨ga, gb, gc⟩ := g
  unfold gV pt at *
  unfold eV at hpu
  dsimp only at hfi hpu ⊢
  obtain ⟨W0, hW0⟩ : ∃ W, w.alloc (.cells #[.int .i64 ga, .int .i64 gb, .int .i64 gc] 27) = W := ⟨_, rfl⟩
  have HB0 : Hid (Below w.heap.size w W0) := by rw [← hW0]; exact bl2 _
  have hg0 : W0.heap[w.heap.size]? = some (.cells #[.int .i64 ga, .int .i64 gb, .int .i64 gc] 27 (0, 0)) := by rw [← hW0]; exact heapNew w _
  have z0 := cellOf (k := 0) hg0 rfl
  have z1 := cellOf (k := 1) hg0 rfl
  have z2 := cellOf (k := 2) hg0 rfl
  have HFI := Lib.hid hfi
  have HPU := Lib.hid hpu
  clear hfi hpu
  clear h hs hd hb hh hm hnm hlast hv hal hx0 hes hsl hc hr hQ hg0
  by_cases hc0 : c = 0
  · obtain ⟨x, rfl, hk⟩ := hsome hc0
    subst hc0
    clear hsome
    unfold placeV at HFI
    dsimp only at HFI
    go_enter Tryz.func35, Tryz.ntmps35
    go_wp2_with fail
    clear z0 z1 z2 hW0
    refine (HFI.out W0 HB0.out).mono ?_
    rintro e w1 ⟨rfl, hb1⟩
    obtain ⟨W2, hW2⟩ : ∃ W, w1.alloc (.cells #[.int .i64 x.inode, .int .i64 x.sec, .int .i64 (x.slot : Int)] 72) = W := ⟨_, rfl⟩
    have HB2 : Hid (Below w.heap.size w W2) := blN HB0.out (blN hb1 (by rw [← hW2]; exact bl2 _))
    have HZ2 : Hid (W2.heap[w1.heap.size]? = some (.cells #[.int .i64 x.inode, .int .i64 x.sec, .int .i64 (x.slot : Int)] 72 (0, 0))) := by rw [← hW2]; exact heapNew w1 _
    have y0 := cellOf (k := 0) HZ2.out rfl
    have y1 := cellOf (k := 1) HZ2.out rfl
    have y2 := cellOf (k := 2) HZ2.out rfl
    clear hb1
    go_wp2_with fail
    clear y0 y1 y2 hW2
    refine (HPU.out W2 HB2.out x.sec x.slot hk).mono ?_
    rintro e w3 hA
    have HF := Lib.hid (HF2.out x _ _ _ (by first | trivial | rfl) (by first | trivial | rfl) HB2.out hA)
    obtain ⟨he, -⟩ := hA
    subst he
    go_wp2
    first | exact HF.out | (go_ret2; exact HF.out)
  · have hc1 : (c != 0) = true := by simp [hc0]
    have hc2 : (c == 0) = false := by simp [hc0]
    clear hsome
    have hpl : ∃ a0 a1 a2, placeV r = .agg #[.int .i64 a0, .int .i64 a1, .int .i64 a2] := by cases r <;> exact ⟨_, _, _, rfl⟩
    obtain ⟨a0, a1, a2, ha⟩ := hpl
    rw [ha] at HFI
    go_enter Tryz.func35, Tryz.ntmps35
    go_wp2_with fail
    clear z0 z1 z2 hW0
    refine (HFI.out W0 HB0.out).mono ?_
    rintro e w1 ⟨rfl, hb1⟩
    have HF := Lib.hid (HF1.out hc0 (w1.alloc (.cells #[.int .i64 a0, .int .i64 a1, .int .i64 a2] 72)) (blN HB0.out (blN hb1 (bl2 _))))
    clear hb1
    go_wp2
    first | exact HF.out | (go_ret2; exact HF.out)
end
end Go.Proofs.YtaphcmcimoloiaaGreatDoor
namespace Go.Proofs.YtaphcmcimoloiaaGreatDoor
open Go Go.RowKit Txt Sp

section
set_option maxHeartbeats 4000000
end
end Go.Proofs.YtaphcmcimoloiaaGreatDoor
