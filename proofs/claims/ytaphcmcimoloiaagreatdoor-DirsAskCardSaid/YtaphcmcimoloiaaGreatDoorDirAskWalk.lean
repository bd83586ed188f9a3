/-
  DirsAsk: the walk.
-/
import Derived.Test.YtaphcmcimoloiaaGreatDoorDirAskC
import Derived.Test.YtaphcmcimoloiaaGreatDoorAllC
namespace Go.Proofs.YtaphcmcimoloiaaGreatDoor
open Go Go.RowKit Txt Sp

section
set_option maxHeartbeats 8000000
set_option maxRecDepth 20000 in
theorem ask_any (w : World) (hm : MaxOk w) (v : Value) (l : List Chg4) (ha : ChgsAt w v l) (nm : ByteArray) (hnm : nm.size ≤ maxLen) :
    Calls Tryz.prog 6 #[v, .string nm] w fun e w' => e = .returned (.bool true) ∧ Below w.heap.size w w' := by
  obtain ⟨ad, len, cap, rfl, HN, hn2, HFa⟩ := RowAt.facts ha.1
  have HIn := Lib.hid ha.2
  have hld := fun W : World => laid17_any W (g := gAsk) (by decide)
  have hwk := fun (W : World) (hW : MaxOk W) => works17_any W hW
  have hst := ask_start
  have hrem := fun (wr : World) (base B Bd : Nat) (D : Nat → Prop) (S : Sp.Side) (k : Nat) (hM : DMem w base B Bd gAsk S D wr) (h : AskI S k) (hk : k < 30) (n : ByteArray) (hn : n.size ≤ maxLen) => ask_remove hM hm h hk n hn
  have hadd := fun (wr : World) (base B Bd : Nat) (D : Nat → Prop) (S : Sp.Side) (k : Nat) (hM : DMem w base B Bd gAsk S D wr) (h : AskI S k) (hk : k < 30) (i : Int) (n : ByteArray) (hn : n.size ≤ maxLen) (vk : Value) (hv : ∀ W, Turn D wr W → Ints W vk [0]) => ask_add hM hm h hk ⟨i, n⟩ hn vk hv
  have hnam := fun (wr : World) (base B Bd : Nat) (D : Nat → Prop) (S : Sp.Side) (k : Nat) (hM : DMem w base B Bd gAsk S D wr) (h : AskI S k) (hk : k ≤ 30) => ask_names hM hm h hk
  obtain ⟨S0, hS0⟩ : ∃ S, freshSide gAsk 0 0 = S := ⟨_, rfl⟩
  rw [hS0] at hld hst
  clear hS0 ha
  have heq := eql_disk_nil
  have heq2 := eql_soft_nil
  unfold gAsk gV at hld
  unfold pt at hld
  dsimp only at hld
  have HM := Lib.hid hm
  have HLD := Lib.hid hld
  have HWK := Lib.hid hwk
  have HST := Lib.hid hst
  have HREM := Lib.hid hrem
  have HADD := Lib.hid hadd
  have HNAM := Lib.hid hnam
  clear hld hwk hst hrem hadd hnam
  clear hm
  go_enter Tryz.func6, Tryz.ntmps6
  obtain ⟨W1, hW1⟩ : ∃ W, w.alloc (.cells #[.int .i64 1, .int .i64 4, .int .i64 12] 27) = W := ⟨_, rfl⟩
  have HB1 : Hid (Below w.heap.size w W1) := by rw [← hW1]; exact bl2 _
  have HG1 : Hid (W1.heap[w.heap.size]? = some (.cells #[.int .i64 1, .int .i64 4, .int .i64 12] 27 (0, 0))) := by rw [← hW1]; exact heapNew w _
  have HZ1 : Hid (w.heap.size < W1.heap.size) := by rw [← hW1]; show _ < _; simp
  have z0 := cellOf (k := 0) HG1.out rfl
  have z1 := cellOf (k := 1) HG1.out rfl
  have z2 := cellOf (k := 2) HG1.out rfl
  go_wp2_with fail
  clear z0 z1 z2 hW1
  refine (HLD.out _).mono ?_
  rintro e w2 ⟨base, B, Bd, D, rfl, hs2, hb2, hD2⟩
  have HM2 : Hid (DMem w base B Bd gAsk S0 D w2) := by
    have hz := HZ1.out
    exact ⟨hs2, fun j hj => (hD2 j hj).2, fun j hj => by have := (hD2 j hj).1; omega, heapOld hb2 HG1.out, blN HB1.out hb2⟩
  clear hs2 hb2 hD2 HG1 HB1 HZ1 HLD
  go_wp2_with fail
  refine (HWK.out _ (HM2.out.max HM.out)).mono ?_
  rintro e w3 ⟨rfl, hb3⟩
  have HM3 := Lib.hid (HM2.out.below hb3)
  clear hb3 HM2 HWK
  go_wp2
  go_loopw [8] (fun q wr => ∃ (k : Nat) (S : Sp.Side) (D : Nat → Prop), k ≤ len ∧ k ≤ 30 ∧ q = .int .i64 (k : Int) ∧ Hid (AskI S k) ∧ Hid (DMem w base B Bd gAsk S D wr)) (fun q _ => 30 - (intOf q).toNat)
  case atStart => exact ⟨0, S0, D, Nat.zero_le _, Nat.zero_le _, rfl, HST, HM3⟩
  case round =>
    clear HM3 HST
    obtain ⟨k, S, D, hk, hk30, rfl, HI, HMr⟩ := hrel
    by_cases hlt : k < len ∧ k < 30
    · obtain ⟨hl1, hl2⟩ := hlt
      obtain ⟨b, o, x, rfl, hb, hx, hc⟩ := HFa.out k hl1
      obtain ⟨hxn, -, -⟩ := HIn.out x (List.mem_of_getElem? hx)
      obtain ⟨xn, xi, xa, xp⟩ := x
      dsimp only at hxn
      have hcell : ∀ W, Below w.heap.size w W → W.cell? ⟨b, o + k * 4, none⟩ = some (.string xn) ∧ W.cell? ⟨b, o + k * 4 + 1, none⟩ = some (.int .i64 xi) ∧ W.cell? ⟨b, o + k * 4 + 2, none⟩ = some (.bool xa) := fun W hW =>
        ⟨(hW.cell (p := ⟨b, o + k * 4, none⟩) hb).trans (hc 0 _ rfl), (hW.cell (p := ⟨b, o + k * 4 + 1, none⟩) hb).trans (hc 1 _ rfl), (hW.cell (p := ⟨b, o + k * 4 + 2, none⟩) hb).trans (hc 2 _ rfl)⟩
      have hall : ∀ W, Below wr.heap.size wr W → (W.cell? ⟨w.heap.size, 0, none⟩ = some (.int .i64 1) ∧ W.cell? ⟨w.heap.size, 1, none⟩ = some (.int .i64 4) ∧ W.cell? ⟨w.heap.size, 2, none⟩ = some (.int .i64 12) ∧ W.cell? ⟨b, o + k * 4, none⟩ = some (.string xn) ∧ W.cell? ⟨b, o + k * 4 + 1, none⟩ = some (.int .i64 xi)) := fun W hW => by
        have hM := HMr.out.below hW
        obtain ⟨c0, c1, c2⟩ := hcell W hM.bel
        exact ⟨cellOf (k := 0) hM.box rfl, cellOf (k := 1) hM.box rfl, cellOf (k := 2) hM.box rfl, c0, c1⟩
      have HAll := Lib.hid hall
      have x2 := (hcell wr HMr.out.bel).2.2
      have hre := fun (W : World) (hW : Below wr.heap.size wr W) => HREM.out W base B Bd D S k (HMr.out.below hW) HI.out hl2 xn hxn
      have had := fun (W : World) (hW : Below wr.heap.size wr W) (i : Int) (hz : W.heap[wr.heap.size]? = some (.cells #[.int .i64 0] 3 (0, 0))) => HADD.out W base B Bd D S k (HMr.out.below hW) HI.out hl2 i xn hxn (.slice (some ⟨wr.heap.size, 0, none⟩) 1 1) (fun W' hT => ints_lone (hT.heap hz (fun hd => by have := HMr.out.lt _ hd; omega)))
      unfold gAsk gV pt at hre
      unfold gAsk gV pt eV at had
      dsimp only at hre had
      have HRE := Lib.hid hre
      have HAD := Lib.hid had
      clear hre had
      clear hcell hc hx hb hall
      cases xa with
      | true =>
        go_upto_region 9 with fail
        have hSd := HAll.out wr.drew (blD (Below.refl _ _))
        refine wp_region_last (fun W => (W.cell? ⟨w.heap.size, 0, none⟩ = some (.int .i64 1) ∧ W.cell? ⟨w.heap.size, 1, none⟩ = some (.int .i64 4) ∧ W.cell? ⟨w.heap.size, 2, none⟩ = some (.int .i64 12) ∧ W.cell? ⟨b, o + k * 4, none⟩ = some (.string xn) ∧ W.cell? ⟨b, o + k * 4 + 1, none⟩ = some (.int .i64 xi))) 7 (by kernel_rfl) (by first | trivial | assumption) (fun hHeld hClosed => ?_)
        refine AnyU.take (i := 0) (v := ?_) (by kernel_rfl) (by decide) hClosed rfl (by kernel_rfl) (by kernel_rfl) (by kernel_rfl) (fun _ _ _ h => h) (Or.inl ⟨by rfl, ?_⟩) (by first | exact fun _ => hHeld | exact fun h => absurd h (by decide)) (fun hClosed2 => ?_)
        rotate_left
        · (intro w hSw; first | (go_simp; done) | (go_simp; with_reducible rfl))
        clear hClosed; have hClosed := hClosed2; clear hClosed2
        simp only [Act.put, List.setIfInBounds_toArray, List.set_cons_zero, List.set_cons_succ, List.getElem_toArray, List.getElem_cons_zero]
        refine AnyU.take (i := 1) (v := ?_) (by kernel_rfl) (by decide) hClosed rfl (by kernel_rfl) (by kernel_rfl) (by kernel_rfl) (fun _ _ _ h => h) (Or.inl ⟨by rfl, ?_⟩) (by first | exact fun _ => hHeld | exact fun h => absurd h (by decide)) (fun hClosed2 => ?_)
        rotate_left
        · (intro w hSw; first | (go_simp; done) | (go_simp; with_reducible rfl))
        clear hClosed; have hClosed := hClosed2; clear hClosed2
        simp only [Act.put, List.setIfInBounds_toArray, List.set_cons_zero, List.set_cons_succ, List.getElem_toArray, List.getElem_cons_zero, List.getElem_cons_succ]
        refine AnyU.take (i := 2) (v := ?_) (by kernel_rfl) (by decide) hClosed rfl (by kernel_rfl) (by kernel_rfl) (by kernel_rfl) (fun _ _ _ h => h) (Or.inl ⟨by rfl, ?_⟩) (by first | exact fun _ => hHeld | exact fun h => absurd h (by decide)) (fun hClosed2 => ?_)
        rotate_left
        · (intro w hSw; first | (go_simp; done) | (go_simp; with_reducible rfl))
        clear hClosed; have hClosed := hClosed2; clear hClosed2
        simp only [Act.put, List.setIfInBounds_toArray, List.set_cons_zero, List.set_cons_succ, List.getElem_toArray, List.getElem_cons_zero, List.getElem_cons_succ]
        refine AnyU.take (i := 3) (v := ?_) (by kernel_rfl) (by decide) hClosed rfl (by kernel_rfl) (by kernel_rfl) (by kernel_rfl) (fun _ _ _ h => h) (Or.inl ⟨by rfl, ?_⟩) (by first | exact fun _ => hHeld | exact fun h => absurd h (by decide)) (fun hClosed2 => ?_)
        rotate_left
        · (intro w hSw; first | (go_simp; done) | (go_simp; with_reducible rfl))
        clear hClosed; have hClosed := hClosed2; clear hClosed2
        simp only [Act.put, List.setIfInBounds_toArray, List.set_cons_zero, List.set_cons_succ, List.getElem_toArray, List.getElem_cons_zero, List.getElem_cons_succ]
        refine AnyU.take (i := 4) (v := ?_) (by kernel_rfl) (by decide) hClosed rfl (by kernel_rfl) (by kernel_rfl) (by kernel_rfl) (fun _ _ _ h => h) (Or.inl ⟨by rfl, ?_⟩) (by first | exact fun _ => hHeld | exact fun h => absurd h (by decide)) (fun hClosed2 => ?_)
        rotate_left
        · (intro w hSw; first | (go_simp; done) | (go_simp; with_reducible rfl))
        clear hClosed; have hClosed := hClosed2; clear hClosed2
        simp only [Act.put, List.setIfInBounds_toArray, List.set_cons_zero, List.set_cons_succ, List.getElem_toArray, List.getElem_cons_zero, List.getElem_cons_succ]
        refine AnyU.take (i := 5) (v := ?_) (by kernel_rfl) (by decide) hClosed rfl (by kernel_rfl) (by kernel_rfl) (by kernel_rfl) (fun _ _ _ h => h) (Or.inl ⟨by rfl, ?_⟩) (by first | exact fun _ => hHeld | exact fun h => absurd h (by decide)) (fun hClosed2 => ?_)
        rotate_left
        · (intro w hSw; first | (go_simp; done) | (go_simp; with_reducible rfl))
        clear hClosed; have hClosed := hClosed2; clear hClosed2
        simp only [Act.put, List.setIfInBounds_toArray, List.set_cons_zero, List.set_cons_succ, List.getElem_toArray, List.getElem_cons_zero, List.getElem_cons_succ]
        refine AnyU.take (i := 6) (v := ?_) (by kernel_rfl) (by decide) hClosed rfl (by kernel_rfl) (by kernel_rfl) (by kernel_rfl) (fun _ _ _ h => h) (Or.inl ⟨by rfl, ?_⟩) (by first | exact fun _ => hHeld | exact fun h => absurd h (by decide)) (fun hClosed2 => ?_)
        rotate_left
        · (intro w hSw; first | (go_simp; done) | (go_simp; with_reducible rfl))
        clear hClosed; have hClosed := hClosed2; clear hClosed2
        simp only [Act.put, List.setIfInBounds_toArray, List.set_cons_zero, List.set_cons_succ, List.getElem_toArray, List.getElem_cons_zero, List.getElem_cons_succ]
        refine AnyU.each (is := [7]) (by kernel_rfl) (by simp) (EachU.cons hClosed (by kernel_rfl) rfl (fun K hK => ?_) EachU.nil)
        try simp only [List.getElem_toArray, List.getElem_cons_zero, List.getElem_cons_succ]
        go_simp
        refine (HRE.out _ (blD (Below.refl _ _))).mono ?_
        rintro e w4 ⟨a, c, rfl, S', D', hM4, hI4⟩
        try simp only
        refine hK.out _ _ (fun h => absurd h (by decide)) (fun _ hClosed2 => ?_)
        clear hK K hClosed; have hClosed := hClosed2; clear hClosed2
        try simp only [Act.put, List.setIfInBounds_toArray, List.set_cons_zero, List.set_cons_succ, List.getElem_toArray, List.getElem_cons_zero, List.getElem_cons_succ]
        refine AnyU.done (by kernel_rfl) ?_ _
        have HM4 := Lib.hid hM4
        have HI4 := Lib.hid hI4
        clear hM4 hI4
        clear hSd hHeld hClosed
        go_wp2
        go_roundw
        case rel => exact ⟨k + 1, S', D', by omega, by omega, by go_num, HI4, HM4⟩
        case measure => simp [intOf]; omega
      | false =>
        have ha1 := fun W : World => amongJ_any W xi 4 (by decide) (by decide)
        have hr1 := amongJ_bd xi 4 (by decide)
        obtain ⟨N, hN⟩ : ∃ z, amongJ xi 4 = z := ⟨_, rfl⟩
        rw [hN] at ha1 hr1
        simp only [show ((4 : Nat) : Int) = 4 from rfl] at ha1 hr1
        have e1 : IntKind.i64.wrap (1 + N) = 1 + N := IntWalk.i64_in _ (by omega)
        have HA1 := Lib.hid ha1
        clear ha1
        clear hN
        go_upto_region 10 with fail
        have hSd := HAll.out wr.drew (blD (Below.refl _ _))
        refine wp_region_last (fun W => (W.cell? ⟨w.heap.size, 0, none⟩ = some (.int .i64 1) ∧ W.cell? ⟨w.heap.size, 1, none⟩ = some (.int .i64 4) ∧ W.cell? ⟨w.heap.size, 2, none⟩ = some (.int .i64 12) ∧ W.cell? ⟨b, o + k * 4, none⟩ = some (.string xn) ∧ W.cell? ⟨b, o + k * 4 + 1, none⟩ = some (.int .i64 xi))) 16 (by kernel_rfl) (by first | trivial | assumption) (fun hHeld hClosed => ?_)
        refine AnyU.take (i := 0) (v := ?_) (by kernel_rfl) (by decide) hClosed rfl (by kernel_rfl) (by kernel_rfl) (by kernel_rfl) (fun _ _ _ h => h) (Or.inl ⟨by rfl, ?_⟩) (by first | exact fun _ => hHeld | exact fun h => absurd h (by decide)) (fun hClosed2 => ?_)
        rotate_left
        · (intro w hSw; first | (go_simp; done) | (go_simp; with_reducible rfl))
        clear hClosed; have hClosed := hClosed2; clear hClosed2
        simp only [Act.put, List.setIfInBounds_toArray, List.set_cons_zero, List.set_cons_succ, List.getElem_toArray, List.getElem_cons_zero]
        refine AnyU.take (i := 1) (v := ?_) (by kernel_rfl) (by decide) hClosed rfl (by kernel_rfl) (by kernel_rfl) (by kernel_rfl) (fun _ _ _ h => h) (Or.inl ⟨by rfl, ?_⟩) (by first | exact fun _ => hHeld | exact fun h => absurd h (by decide)) (fun hClosed2 => ?_)
        rotate_left
        · (intro w hSw; first | (go_simp; done) | (go_simp; with_reducible rfl))
        clear hClosed; have hClosed := hClosed2; clear hClosed2
        simp only [Act.put, List.setIfInBounds_toArray, List.set_cons_zero, List.set_cons_succ, List.getElem_toArray, List.getElem_cons_zero, List.getElem_cons_succ]
        refine AnyU.take (i := 2) (v := ?_) (by kernel_rfl) (by decide) hClosed rfl (by kernel_rfl) (by kernel_rfl) (by kernel_rfl) (fun _ _ _ h => h) (Or.inl ⟨by rfl, ?_⟩) (by first | exact fun _ => hHeld | exact fun h => absurd h (by decide)) (fun hClosed2 => ?_)
        rotate_left
        · (intro w hSw; first | (go_simp; done) | (go_simp; with_reducible rfl))
        clear hClosed; have hClosed := hClosed2; clear hClosed2
        simp only [Act.put, List.setIfInBounds_toArray, List.set_cons_zero, List.set_cons_succ, List.getElem_toArray, List.getElem_cons_zero, List.getElem_cons_succ]
        refine AnyU.take (i := 3) (v := ?_) (by kernel_rfl) (by decide) hClosed rfl (by kernel_rfl) (by kernel_rfl) (by kernel_rfl) (fun _ _ _ h => h) (Or.inl ⟨by rfl, ?_⟩) (by first | exact fun _ => hHeld | exact fun h => absurd h (by decide)) (fun hClosed2 => ?_)
        rotate_left
        · (intro w hSw; first | (go_simp; done) | (go_simp; with_reducible rfl))
        clear hClosed; have hClosed := hClosed2; clear hClosed2
        simp only [Act.put, List.setIfInBounds_toArray, List.set_cons_zero, List.set_cons_succ, List.getElem_toArray, List.getElem_cons_zero, List.getElem_cons_succ]
        refine AnyU.take (i := 4) (v := ?_) (by kernel_rfl) (by decide) hClosed rfl (by kernel_rfl) (by kernel_rfl) (by kernel_rfl) (fun _ _ _ h => h) (Or.inl ⟨by rfl, ?_⟩) (by first | exact fun _ => hHeld | exact fun h => absurd h (by decide)) (fun hClosed2 => ?_)
        rotate_left
        · (intro w hSw; first | (go_simp; done) | (go_simp; with_reducible rfl))
        clear hClosed; have hClosed := hClosed2; clear hClosed2
        simp only [Act.put, List.setIfInBounds_toArray, List.set_cons_zero, List.set_cons_succ, List.getElem_toArray, List.getElem_cons_zero, List.getElem_cons_succ]
        refine AnyU.take (i := 5) (v := ?_) (by kernel_rfl) (by decide) hClosed rfl (by kernel_rfl) (by kernel_rfl) (by kernel_rfl) (fun _ _ _ h => h) (Or.inl ⟨by rfl, ?_⟩) (by first | exact fun _ => hHeld | exact fun h => absurd h (by decide)) (fun hClosed2 => ?_)
        rotate_left
        · (intro w hSw; first | (go_simp; done) | (go_simp; with_reducible rfl))
        clear hClosed; have hClosed := hClosed2; clear hClosed2
        simp only [Act.put, List.setIfInBounds_toArray, List.set_cons_zero, List.set_cons_succ, List.getElem_toArray, List.getElem_cons_zero, List.getElem_cons_succ]
        refine AnyU.take (i := 6) (v := ?_) (by kernel_rfl) (by decide) hClosed rfl (by kernel_rfl) (by kernel_rfl) (by kernel_rfl) (fun _ _ _ h => h) (Or.inl ⟨by rfl, ?_⟩) (by first | exact fun _ => hHeld | exact fun h => absurd h (by decide)) (fun hClosed2 => ?_)
        rotate_left
        · (intro w hSw; first | (go_simp; done) | (go_simp; with_reducible rfl))
        clear hClosed; have hClosed := hClosed2; clear hClosed2
        simp only [Act.put, List.setIfInBounds_toArray, List.set_cons_zero, List.set_cons_succ, List.getElem_toArray, List.getElem_cons_zero, List.getElem_cons_succ]
        refine AnyU.take (i := 9) (v := ?_) (by kernel_rfl) (by decide) hClosed rfl (by kernel_rfl) (by kernel_rfl) (by kernel_rfl) (fun _ _ _ h => h) (Or.inl ⟨by rfl, ?_⟩) (by first | exact fun _ => hHeld | exact fun h => absurd h (by decide)) (fun hClosed2 => ?_)
        rotate_left
        · (intro w hSw; first | (go_simp; done) | (go_simp; with_reducible rfl))
        clear hClosed; have hClosed := hClosed2; clear hClosed2
        simp only [Act.put, List.setIfInBounds_toArray, List.set_cons_zero, List.set_cons_succ, List.getElem_toArray, List.getElem_cons_zero, List.getElem_cons_succ]
        refine AnyU.take (i := 10) (v := ?_) (by kernel_rfl) (by decide) hClosed rfl (by kernel_rfl) (by kernel_rfl) (by kernel_rfl) (fun _ _ _ h => h) (Or.inl ⟨by rfl, ?_⟩) (by first | exact fun _ => hHeld | exact fun h => absurd h (by decide)) (fun hClosed2 => ?_)
        rotate_left
        · (intro w hSw; first | (go_simp; done) | (go_simp; with_reducible rfl))
        clear hClosed; have hClosed := hClosed2; clear hClosed2
        simp only [Act.put, List.setIfInBounds_toArray, List.set_cons_zero, List.set_cons_succ, List.getElem_toArray, List.getElem_cons_zero, List.getElem_cons_succ]
        refine AnyU.take (i := 11) (v := ?_) (by kernel_rfl) (by decide) hClosed rfl (by kernel_rfl) (by kernel_rfl) (by kernel_rfl) (fun _ _ _ h => h) (Or.inl ⟨by rfl, ?_⟩) (by first | exact fun _ => hHeld | exact fun h => absurd h (by decide)) (fun hClosed2 => ?_)
        rotate_left
        · (intro w hSw; first | (go_simp; done) | (go_simp; with_reducible rfl))
        clear hClosed; have hClosed := hClosed2; clear hClosed2
        simp only [Act.put, List.setIfInBounds_toArray, List.set_cons_zero, List.set_cons_succ, List.getElem_toArray, List.getElem_cons_zero, List.getElem_cons_succ]
        refine AnyU.take (i := 12) (v := ?_) (by kernel_rfl) (by decide) hClosed rfl (by kernel_rfl) (by kernel_rfl) (by kernel_rfl) (fun _ _ _ h => h) (Or.inl ⟨by rfl, ?_⟩) (by first | exact fun _ => hHeld | exact fun h => absurd h (by decide)) (fun hClosed2 => ?_)
        rotate_left
        · (intro w hSw; first | (go_simp; done) | (go_simp; with_reducible rfl))
        clear hClosed; have hClosed := hClosed2; clear hClosed2
        simp only [Act.put, List.setIfInBounds_toArray, List.set_cons_zero, List.set_cons_succ, List.getElem_toArray, List.getElem_cons_zero, List.getElem_cons_succ]
        refine AnyU.take (i := 13) (v := ?_) (by kernel_rfl) (by decide) hClosed rfl (by kernel_rfl) (by kernel_rfl) (by kernel_rfl) (fun _ _ _ h => h) (Or.inl ⟨by rfl, ?_⟩) (by first | exact fun _ => hHeld | exact fun h => absurd h (by decide)) (fun hClosed2 => ?_)
        rotate_left
        · (intro w hSw; first | (go_simp; done) | (go_simp; with_reducible rfl))
        clear hClosed; have hClosed := hClosed2; clear hClosed2
        simp only [Act.put, List.setIfInBounds_toArray, List.set_cons_zero, List.set_cons_succ, List.getElem_toArray, List.getElem_cons_zero, List.getElem_cons_succ]
        refine AnyU.each (is := [7, 15]) (by kernel_rfl) (by simp) (EachU.cons hClosed (by kernel_rfl) rfl (fun K hK => ?_) (EachU.cons hClosed (by kernel_rfl) rfl (fun K hK => ?_) EachU.nil))
        · try simp only [List.getElem_toArray, List.getElem_cons_zero, List.getElem_cons_succ]
          go_simp
          refine (HA1.out _).mono ?_
          rintro e w4 ⟨rfl, hw4⟩
          subst hw4
          try simp only
          refine hK.out _ _ (fun _ => ?hkS) (fun hHeld2 hClosed2 => ?_)
          case hkS =>
            exact hSd
          clear hHeld; have hHeld := hHeld2 (by decide)
          clear hK K hHeld2 hClosed; have hClosed := hClosed2; clear hClosed2
          try simp only [Act.put, List.setIfInBounds_toArray, List.set_cons_zero, List.set_cons_succ, List.getElem_toArray, List.getElem_cons_zero, List.getElem_cons_succ]
          refine AnyU.take (i := 8) (v := ?_) (by kernel_rfl) (by decide) hClosed rfl (by kernel_rfl) (by kernel_rfl) (by kernel_rfl) (fun _ _ _ h => h) (Or.inl ⟨by rfl, ?_⟩) (by first | exact fun _ => hHeld | exact fun h => absurd h (by decide)) (fun hClosed2 => ?_)
          rotate_left
          · (intro w hSw; first | (go_simp; done) | (go_simp; with_reducible rfl))
          clear hClosed; have hClosed := hClosed2; clear hClosed2
          simp only [Act.put, List.setIfInBounds_toArray, List.set_cons_zero, List.set_cons_succ, List.getElem_toArray, List.getElem_cons_zero, List.getElem_cons_succ]
          refine AnyU.take (i := 14) (v := ?_) (by kernel_rfl) (by decide) hClosed rfl (by kernel_rfl) (by kernel_rfl) (by kernel_rfl) (fun _ _ _ h => h) (Or.inl ⟨by rfl, ?_⟩) (by first | exact fun _ => hHeld | exact fun h => absurd h (by decide)) (fun hClosed2 => ?_)
          rotate_left
          · (intro w hSw; first | (go_simp; done) | (go_simp; with_reducible rfl))
          clear hClosed; have hClosed := hClosed2; clear hClosed2
          simp only [Act.put, List.setIfInBounds_toArray, List.set_cons_zero, List.set_cons_succ, List.getElem_toArray, List.getElem_cons_zero, List.getElem_cons_succ]
          refine AnyU.each (is := [15]) (by kernel_rfl) (by simp) (EachU.cons hClosed (by kernel_rfl) rfl (fun K hK => ?_) EachU.nil)
          try simp only [List.getElem_toArray, List.getElem_cons_zero, List.getElem_cons_succ]
          go_simp
          try simp only
          refine hK.out _ _ (fun _ => ?hkS) (fun hHeld2 hClosed2 => ?_)
          case hkS =>
            exact HAll.out _ (bl1 (blD (Below.refl _ _)) _)
          clear hHeld; have hHeld := hHeld2 (by decide)
          clear hK K hHeld2 hClosed; have hClosed := hClosed2; clear hClosed2
          try simp only [Act.put, List.setIfInBounds_toArray, List.set_cons_zero, List.set_cons_succ, List.getElem_toArray, List.getElem_cons_zero, List.getElem_cons_succ]
          refine AnyU.each (is := [16]) (by kernel_rfl) (by simp) (EachU.cons hClosed (by kernel_rfl) rfl (fun K hK => ?_) EachU.nil)
          try simp only [List.getElem_toArray, List.getElem_cons_zero, List.getElem_cons_succ]
          go_simp
          refine (HAD.out _ (bl1 (blD (Below.refl _ _)) _) _ (heapNew wr.drew _)).mono ?_
          rintro e w5 ⟨v, c, rfl, S', D', hM5, hI5⟩
          try simp only
          refine hK.out _ _ (fun h => absurd h (by decide)) (fun _ hClosed2 => ?_)
          clear hK K hClosed; have hClosed := hClosed2; clear hClosed2
          try simp only [Act.put, List.setIfInBounds_toArray, List.set_cons_zero, List.set_cons_succ, List.getElem_toArray, List.getElem_cons_zero, List.getElem_cons_succ]
          refine AnyU.done (by kernel_rfl) ?_ _
          have HM5 := Lib.hid hM5
          have HI5 := Lib.hid hI5
          clear hM5 hI5
          clear hSd hHeld hClosed
          go_wp2
          go_roundw
          case rel => exact ⟨k + 1, S', D', by omega, by omega, by go_num, HI5, HM5⟩
          case measure => simp [intOf]; omega
        · try simp only [List.getElem_toArray, List.getElem_cons_zero, List.getElem_cons_succ]
          go_simp
          try simp only
          refine hK.out _ _ (fun _ => ?hkS) (fun hHeld2 hClosed2 => ?_)
          case hkS =>
            exact HAll.out _ (bl1 (blD (Below.refl _ _)) _)
          clear hHeld; have hHeld := hHeld2 (by decide)
          clear hK K hHeld2 hClosed; have hClosed := hClosed2; clear hClosed2
          try simp only [Act.put, List.setIfInBounds_toArray, List.set_cons_zero, List.set_cons_succ, List.getElem_toArray, List.getElem_cons_zero, List.getElem_cons_succ]
          refine AnyU.each (is := [7]) (by kernel_rfl) (by simp) (EachU.cons hClosed (by kernel_rfl) rfl (fun K hK => ?_) EachU.nil)
          try simp only [List.getElem_toArray, List.getElem_cons_zero, List.getElem_cons_succ]
          go_simp
          refine (HA1.out _).mono ?_
          rintro e w4 ⟨rfl, hw4⟩
          subst hw4
          try simp only
          refine hK.out _ _ (fun _ => ?hkS) (fun hHeld2 hClosed2 => ?_)
          case hkS =>
            exact HAll.out _ (bl1 (blD (Below.refl _ _)) _)
          clear hHeld; have hHeld := hHeld2 (by decide)
          clear hK K hHeld2 hClosed; have hClosed := hClosed2; clear hClosed2
          try simp only [Act.put, List.setIfInBounds_toArray, List.set_cons_zero, List.set_cons_succ, List.getElem_toArray, List.getElem_cons_zero, List.getElem_cons_succ]
          refine AnyU.take (i := 8) (v := ?_) (by kernel_rfl) (by decide) hClosed rfl (by kernel_rfl) (by kernel_rfl) (by kernel_rfl) (fun _ _ _ h => h) (Or.inl ⟨by rfl, ?_⟩) (by first | exact fun _ => hHeld | exact fun h => absurd h (by decide)) (fun hClosed2 => ?_)
          rotate_left
          · (intro w hSw; first | (go_simp; done) | (go_simp; with_reducible rfl))
          clear hClosed; have hClosed := hClosed2; clear hClosed2
          simp only [Act.put, List.setIfInBounds_toArray, List.set_cons_zero, List.set_cons_succ, List.getElem_toArray, List.getElem_cons_zero, List.getElem_cons_succ]
          refine AnyU.take (i := 14) (v := ?_) (by kernel_rfl) (by decide) hClosed rfl (by kernel_rfl) (by kernel_rfl) (by kernel_rfl) (fun _ _ _ h => h) (Or.inl ⟨by rfl, ?_⟩) (by first | exact fun _ => hHeld | exact fun h => absurd h (by decide)) (fun hClosed2 => ?_)
          rotate_left
          · (intro w hSw; first | (go_simp; done) | (go_simp; with_reducible rfl))
          clear hClosed; have hClosed := hClosed2; clear hClosed2
          simp only [Act.put, List.setIfInBounds_toArray, List.set_cons_zero, List.set_cons_succ, List.getElem_toArray, List.getElem_cons_zero, List.getElem_cons_succ]
          refine AnyU.each (is := [16]) (by kernel_rfl) (by simp) (EachU.cons hClosed (by kernel_rfl) rfl (fun K hK => ?_) EachU.nil)
          try simp only [List.getElem_toArray, List.getElem_cons_zero, List.getElem_cons_succ]
          go_simp
          refine (HAD.out _ (bl1 (blD (Below.refl _ _)) _) _ (heapNew wr.drew _)).mono ?_
          rintro e w5 ⟨v, c, rfl, S', D', hM5, hI5⟩
          try simp only
          refine hK.out _ _ (fun h => absurd h (by decide)) (fun _ hClosed2 => ?_)
          clear hK K hClosed; have hClosed := hClosed2; clear hClosed2
          try simp only [Act.put, List.setIfInBounds_toArray, List.set_cons_zero, List.set_cons_succ, List.getElem_toArray, List.getElem_cons_zero, List.getElem_cons_succ]
          refine AnyU.done (by kernel_rfl) ?_ _
          have HM5 := Lib.hid hM5
          have HI5 := Lib.hid hI5
          clear hM5 hI5
          clear hSd hHeld hClosed
          go_wp2
          go_roundw
          case rel => exact ⟨k + 1, S', D', by omega, by omega, by go_num, HI5, HM5⟩
          case measure => simp [intOf]; omega
    · obtain ⟨N, hN30, hsize, hris, hnames, hfind⟩ := HNAM.out wr base B Bd D S k HMr.out HI.out hk30
      unfold gAsk gV pt at hnames hfind
      dsimp only at hnames hfind
      have hlt2 : (¬ k < len) ∨ (k < len ∧ ¬ k < 30) := by omega
      have HN30 := Lib.hid hN30
      have HBelow : Hid (Below w.heap.size w wr) := HMr.out.bel
      have HSize : Hid (∀ x ∈ N, x.size ≤ maxLen) := hsize
      have HBox : Hid (∀ W, Below wr.heap.size wr W → W.cell? ⟨w.heap.size, 0, none⟩ = some (.int .i64 1) ∧ W.cell? ⟨w.heap.size, 1, none⟩ = some (.int .i64 4) ∧ W.cell? ⟨w.heap.size, 2, none⟩ = some (.int .i64 12)) := fun W hW => by
        have h := (HMr.out.below hW).box
        exact ⟨cellOf (k := 0) h rfl, cellOf (k := 1) h rfl, cellOf (k := 2) h rfl⟩
      have HRIS := Lib.hid hris
      have HNAMES := Lib.hid hnames
      have HFIND := Lib.hid hfind
      clear hris hnames hfind
      clear HREM HADD HNAM hlt HI hN30 hsize
      rcases hlt2 with h1 | ⟨h1, h2⟩
      · skip
        have z := HBox.out wr (Below.refl _ _)
        obtain ⟨z0, z1, z2⟩ := z
        go_wp2_with fail
        clear z0 z1 z2
        refine HNAMES.out.mono ?_
        rintro e w6 ⟨v, rfl, hv6, hb6⟩
        obtain ⟨ad2, n2, cap2, rfl, HLen, hn22, HF6⟩ := RowAt.facts (OwnR.row (f := strC) (fun _ _ => rfl) hv6)
        have HB6 := Lib.hid hb6
        have hn30 : n2 ≤ 30 := by have := HLen.out; have := HN30.out; omega
        clear hv6 hb6 HNAMES
        go_wp2
        go_loopw [11, 84] (fun th q wr2 => ∃ j : Nat, j ≤ n2 ∧ q = .int .i64 (j : Int) ∧ ∃ t : Bool, th = .bool t ∧ Hid (t = true ↔ nm ∈ N.take j) ∧ Hid (Below w6.heap.size w6 wr2)) (fun _ q _ => n2 - (intOf q).toNat)
        case atStart => exact ⟨0, Nat.zero_le _, rfl, false, rfl, (by show false = true ↔ nm ∈ N.take 0; simp), Below.refl _ _⟩
        case round =>
          obtain ⟨j, hj, rfl, th, rfl, HTh, HBj⟩ := hrel
          have HBW := Lib.hid (blN HB6.out HBj.out)
          obtain ⟨z0, z1, z2⟩ := HBox.out wr HBW.out
          by_cases hjn : j < n2
          · obtain ⟨b, o, x, rfl, hb, hx, hc⟩ := HF6.out j hjn
            have hcx : ∀ W, Below w6.heap.size w6 W → W.cell? ⟨b, o + j, none⟩ = some (.string x) := fun W hW => by
              have := (hW.cell (p := ⟨b, o + j * 1 + 0, none⟩) hb).trans (hc 0 _ rfl)
              simpa using this
            have hxs : x.size ≤ maxLen := HSize.out x (List.mem_of_getElem? hx)
            have HXN : Hid (x ∈ N) := List.mem_of_getElem? hx
            have HTake : Hid (N.take (j + 1) = N.take j ++ [x]) := take_step hx
            have HX := Lib.hid hx
            have x0 := hcx wr HBj.out
            have hfx := HFIND.out wr HBW.out x hxs
            obtain ⟨eq, heq3⟩ : ∃ q, decide (x = nm) = q := ⟨_, rfl⟩
            have q3 : (x.toList == nm.toList) = eq := (text_eq _ _).trans heq3
            have HNew : Hid ((th || eq) = true ↔ nm ∈ N.take (j + 1)) := by
              show (th || eq) = true ↔ nm ∈ N.take (j + 1)
              rw [HTake.out, List.mem_append, List.mem_singleton, Bool.or_eq_true, HTh.out, ← heq3, decide_eq_true_iff]
              constructor
              · exact fun h => h.imp_right (fun e => e.symm)
              · exact fun h => h.imp_right (fun e => e.symm)
            have HCX := Lib.hid hcx
            have HFX := Lib.hid hfx
            clear hcx hfx
            clear hc hx hb heq3 hxs
            cases th with
            | true =>
              go_wp2_with fail
              clear z0 z1 z2 x0
              refine HFX.out.mono ?_
              rintro e w9 ⟨c, a0, a1, a2, rfl, hb9, hc9⟩
              obtain ⟨rfl, -⟩ := hc9.resolve_right (fun h => h.2 HXN.out)
              have HB9 : Hid (Below w6.heap.size w6 w9) := blN HBj.out hb9
              clear hb9 hc9
              by_cases hj0 : j = 0
              · subst hj0
                go_wp2
                go_roundw
                case rel => exact ⟨1, by omega, by go_num, _, rfl, HNew, bl1 HB9.out _⟩
                case measure => simp [intOf]; omega
              · obtain ⟨j', rfl⟩ : ∃ j', j = j' + 1 := ⟨j - 1, by omega⟩
                obtain ⟨b', o', x', e', hb', hx', hc'⟩ := HF6.out j' (by omega)
                cases e'
                have hle := HRIS.out j' x' x hx' HX.out
                rw [Bool.or_eq_false_iff] at hle
                obtain ⟨l1, l2⟩ := hle
                obtain ⟨W9, hW9⟩ : ∃ W, w9.alloc (.cells #[.int .i64 a0, .int .i64 a1, .int .i64 a2] 72) = W := ⟨_, rfl⟩
                have HB10 : Hid (Below w6.heap.size w6 W9) := by rw [← hW9]; exact bl1 HB9.out _
                have y0 : W9.cell? ⟨b, o + j', none⟩ = some (.string x') := by
                  have := (HB10.out.cell (p := ⟨b, o + j' * 1 + 0, none⟩) hb').trans (hc' 0 _ rfl)
                  simpa using this
                have e1 : IntKind.i64.wrap (((j' + 1 : Nat) : Int) - 1) = (j' : Int) := by rw [IntWalk.i64_in _ (by omega)]; omega
                have q0 : decide (((j' + 1 : Nat) : Int) > 0) = true := decide_eq_true (by omega)
                clear hc' hx' hb'
                go_wp2
                go_roundw
                case rel => exact ⟨j' + 1 + 1, by omega, by go_num, _, rfl, HNew, HB10.out⟩
                case measure => simp [intOf]; omega
            | false =>
              go_wp2_with fail
              clear z0 z1 z2 x0
              refine HFX.out.mono ?_
              rintro e w9 ⟨c, a0, a1, a2, rfl, hb9, hc9⟩
              obtain ⟨rfl, -⟩ := hc9.resolve_right (fun h => h.2 HXN.out)
              have HB9 : Hid (Below w6.heap.size w6 w9) := blN HBj.out hb9
              clear hb9 hc9
              by_cases hj0 : j = 0
              · subst hj0
                go_wp2
                go_roundw
                case rel => exact ⟨1, by omega, by go_num, _, rfl, HNew, bl1 HB9.out _⟩
                case measure => simp [intOf]; omega
              · obtain ⟨j', rfl⟩ : ∃ j', j = j' + 1 := ⟨j - 1, by omega⟩
                obtain ⟨b', o', x', e', hb', hx', hc'⟩ := HF6.out j' (by omega)
                cases e'
                have hle := HRIS.out j' x' x hx' HX.out
                rw [Bool.or_eq_false_iff] at hle
                obtain ⟨l1, l2⟩ := hle
                obtain ⟨W9, hW9⟩ : ∃ W, w9.alloc (.cells #[.int .i64 a0, .int .i64 a1, .int .i64 a2] 72) = W := ⟨_, rfl⟩
                have HB10 : Hid (Below w6.heap.size w6 W9) := by rw [← hW9]; exact bl1 HB9.out _
                have y0 : W9.cell? ⟨b, o + j', none⟩ = some (.string x') := by
                  have := (HB10.out.cell (p := ⟨b, o + j' * 1 + 0, none⟩) hb').trans (hc' 0 _ rfl)
                  simpa using this
                have e1 : IntKind.i64.wrap (((j' + 1 : Nat) : Int) - 1) = (j' : Int) := by rw [IntWalk.i64_in _ (by omega)]; omega
                have q0 : decide (((j' + 1 : Nat) : Int) > 0) = true := decide_eq_true (by omega)
                clear hc' hx' hb'
                go_wp2
                go_roundw
                case rel => exact ⟨j' + 1 + 1, by omega, by go_num, _, rfl, HNew, HB10.out⟩
                case measure => simp [intOf]; omega
          · obtain rfl : j = n2 := by omega
            have htk : N.take j = N := List.take_of_length_le (by have := HLen.out; omega)
            have hth := HTh.out
            rw [htk] at hth
            have hfx := HFIND.out wr HBW.out nm hnm
            have HBel : Hid (Below w.heap.size w wr) := blN HBelow.out HBW.out
            have HFX := Lib.hid hfx
            clear hfx
            clear htk
            go_wp2_with fail
            clear z0 z1 z2
            refine HFX.out.mono ?_
            rintro e w9 ⟨c, a0, a1, a2, rfl, hb9, hc9⟩
            have HF : Hid (Below w.heap.size w w9) := blN HBel.out hb9
            clear hb9
            rcases hc9 with ⟨rfl, hin⟩ | ⟨hc0, hnin⟩
            · obtain rfl : th = true := hth.2 hin
              clear hth hin
              go_wp2
              go_ret
              exact ⟨rfl, bl1 HF.out _⟩
            · obtain rfl : th = false := by
                cases th with
                | false => rfl
                | true => exact absurd (hth.1 rfl) hnin
              have q0 : (c == 0) = false := beq_eq_false_iff_ne.2 hc0
              clear hth hnin hc0
              go_wp2
              go_ret
              exact ⟨rfl, bl1 HF.out _⟩
      · skip
        have z := HBox.out wr (Below.refl _ _)
        obtain ⟨z0, z1, z2⟩ := z
        go_wp2_with fail
        clear z0 z1 z2
        refine HNAMES.out.mono ?_
        rintro e w6 ⟨v, rfl, hv6, hb6⟩
        obtain ⟨ad2, n2, cap2, rfl, HLen, hn22, HF6⟩ := RowAt.facts (OwnR.row (f := strC) (fun _ _ => rfl) hv6)
        have HB6 := Lib.hid hb6
        have hn30 : n2 ≤ 30 := by have := HLen.out; have := HN30.out; omega
        clear hv6 hb6 HNAMES
        go_wp2
        go_loopw [11, 84] (fun th q wr2 => ∃ j : Nat, j ≤ n2 ∧ q = .int .i64 (j : Int) ∧ ∃ t : Bool, th = .bool t ∧ Hid (t = true ↔ nm ∈ N.take j) ∧ Hid (Below w6.heap.size w6 wr2)) (fun _ q _ => n2 - (intOf q).toNat)
        case atStart => exact ⟨0, Nat.zero_le _, rfl, false, rfl, (by show false = true ↔ nm ∈ N.take 0; simp), Below.refl _ _⟩
        case round =>
          obtain ⟨j, hj, rfl, th, rfl, HTh, HBj⟩ := hrel
          have HBW := Lib.hid (blN HB6.out HBj.out)
          obtain ⟨z0, z1, z2⟩ := HBox.out wr HBW.out
          by_cases hjn : j < n2
          · obtain ⟨b, o, x, rfl, hb, hx, hc⟩ := HF6.out j hjn
            have hcx : ∀ W, Below w6.heap.size w6 W → W.cell? ⟨b, o + j, none⟩ = some (.string x) := fun W hW => by
              have := (hW.cell (p := ⟨b, o + j * 1 + 0, none⟩) hb).trans (hc 0 _ rfl)
              simpa using this
            have hxs : x.size ≤ maxLen := HSize.out x (List.mem_of_getElem? hx)
            have HXN : Hid (x ∈ N) := List.mem_of_getElem? hx
            have HTake : Hid (N.take (j + 1) = N.take j ++ [x]) := take_step hx
            have HX := Lib.hid hx
            have x0 := hcx wr HBj.out
            have hfx := HFIND.out wr HBW.out x hxs
            obtain ⟨eq, heq3⟩ : ∃ q, decide (x = nm) = q := ⟨_, rfl⟩
            have q3 : (x.toList == nm.toList) = eq := (text_eq _ _).trans heq3
            have HNew : Hid ((th || eq) = true ↔ nm ∈ N.take (j + 1)) := by
              show (th || eq) = true ↔ nm ∈ N.take (j + 1)
              rw [HTake.out, List.mem_append, List.mem_singleton, Bool.or_eq_true, HTh.out, ← heq3, decide_eq_true_iff]
              constructor
              · exact fun h => h.imp_right (fun e => e.symm)
              · exact fun h => h.imp_right (fun e => e.symm)
            have HCX := Lib.hid hcx
            have HFX := Lib.hid hfx
            clear hcx hfx
            clear hc hx hb heq3 hxs
            cases th with
            | true =>
              go_wp2_with fail
              clear z0 z1 z2 x0
              refine HFX.out.mono ?_
              rintro e w9 ⟨c, a0, a1, a2, rfl, hb9, hc9⟩
              obtain ⟨rfl, -⟩ := hc9.resolve_right (fun h => h.2 HXN.out)
              have HB9 : Hid (Below w6.heap.size w6 w9) := blN HBj.out hb9
              clear hb9 hc9
              by_cases hj0 : j = 0
              · subst hj0
                go_wp2
                go_roundw
                case rel => exact ⟨1, by omega, by go_num, _, rfl, HNew, bl1 HB9.out _⟩
                case measure => simp [intOf]; omega
              · obtain ⟨j', rfl⟩ : ∃ j', j = j' + 1 := ⟨j - 1, by omega⟩
                obtain ⟨b', o', x', e', hb', hx', hc'⟩ := HF6.out j' (by omega)
                cases e'
                have hle := HRIS.out j' x' x hx' HX.out
                rw [Bool.or_eq_false_iff] at hle
                obtain ⟨l1, l2⟩ := hle
                obtain ⟨W9, hW9⟩ : ∃ W, w9.alloc (.cells #[.int .i64 a0, .int .i64 a1, .int .i64 a2] 72) = W := ⟨_, rfl⟩
                have HB10 : Hid (Below w6.heap.size w6 W9) := by rw [← hW9]; exact bl1 HB9.out _
                have y0 : W9.cell? ⟨b, o + j', none⟩ = some (.string x') := by
                  have := (HB10.out.cell (p := ⟨b, o + j' * 1 + 0, none⟩) hb').trans (hc' 0 _ rfl)
                  simpa using this
                have e1 : IntKind.i64.wrap (((j' + 1 : Nat) : Int) - 1) = (j' : Int) := by rw [IntWalk.i64_in _ (by omega)]; omega
                have q0 : decide (((j' + 1 : Nat) : Int) > 0) = true := decide_eq_true (by omega)
                clear hc' hx' hb'
                go_wp2
                go_roundw
                case rel => exact ⟨j' + 1 + 1, by omega, by go_num, _, rfl, HNew, HB10.out⟩
                case measure => simp [intOf]; omega
            | false =>
              go_wp2_with fail
              clear z0 z1 z2 x0
              refine HFX.out.mono ?_
              rintro e w9 ⟨c, a0, a1, a2, rfl, hb9, hc9⟩
              obtain ⟨rfl, -⟩ := hc9.resolve_right (fun h => h.2 HXN.out)
              have HB9 : Hid (Below w6.heap.size w6 w9) := blN HBj.out hb9
              clear hb9 hc9
              by_cases hj0 : j = 0
              · subst hj0
                go_wp2
                go_roundw
                case rel => exact ⟨1, by omega, by go_num, _, rfl, HNew, bl1 HB9.out _⟩
                case measure => simp [intOf]; omega
              · obtain ⟨j', rfl⟩ : ∃ j', j = j' + 1 := ⟨j - 1, by omega⟩
                obtain ⟨b', o', x', e', hb', hx', hc'⟩ := HF6.out j' (by omega)
                cases e'
                have hle := HRIS.out j' x' x hx' HX.out
                rw [Bool.or_eq_false_iff] at hle
                obtain ⟨l1, l2⟩ := hle
                obtain ⟨W9, hW9⟩ : ∃ W, w9.alloc (.cells #[.int .i64 a0, .int .i64 a1, .int .i64 a2] 72) = W := ⟨_, rfl⟩
                have HB10 : Hid (Below w6.heap.size w6 W9) := by rw [← hW9]; exact bl1 HB9.out _
                have y0 : W9.cell? ⟨b, o + j', none⟩ = some (.string x') := by
                  have := (HB10.out.cell (p := ⟨b, o + j' * 1 + 0, none⟩) hb').trans (hc' 0 _ rfl)
                  simpa using this
                have e1 : IntKind.i64.wrap (((j' + 1 : Nat) : Int) - 1) = (j' : Int) := by rw [IntWalk.i64_in _ (by omega)]; omega
                have q0 : decide (((j' + 1 : Nat) : Int) > 0) = true := decide_eq_true (by omega)
                clear hc' hx' hb'
                go_wp2
                go_roundw
                case rel => exact ⟨j' + 1 + 1, by omega, by go_num, _, rfl, HNew, HB10.out⟩
                case measure => simp [intOf]; omega
          · obtain rfl : j = n2 := by omega
            have htk : N.take j = N := List.take_of_length_le (by have := HLen.out; omega)
            have hth := HTh.out
            rw [htk] at hth
            have hfx := HFIND.out wr HBW.out nm hnm
            have HBel : Hid (Below w.heap.size w wr) := blN HBelow.out HBW.out
            have HFX := Lib.hid hfx
            clear hfx
            clear htk
            go_wp2_with fail
            clear z0 z1 z2
            refine HFX.out.mono ?_
            rintro e w9 ⟨c, a0, a1, a2, rfl, hb9, hc9⟩
            have HF : Hid (Below w.heap.size w w9) := blN HBel.out hb9
            clear hb9
            rcases hc9 with ⟨rfl, hin⟩ | ⟨hc0, hnin⟩
            · obtain rfl : th = true := hth.2 hin
              clear hth hin
              go_wp2
              go_ret
              exact ⟨rfl, bl1 HF.out _⟩
            · obtain rfl : th = false := by
                cases th with
                | false => rfl
                | true => exact absurd (hth.1 rfl) hnin
              have q0 : (c == 0) = false := beq_eq_false_iff_ne.2 hc0
              clear hth hnin hc0
              go_wp2
              go_ret
              exact ⟨rfl, bl1 HF.out _⟩
end
end Go.Proofs.YtaphcmcimoloiaaGreatDoor
