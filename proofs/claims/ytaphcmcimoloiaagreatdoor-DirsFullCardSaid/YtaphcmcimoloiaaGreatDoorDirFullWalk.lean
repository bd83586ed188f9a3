/-
  DirsFull: the walk.
-/
import Derived.Test.YtaphcmcimoloiaaGreatDoorDirFullC
import Derived.Test.YtaphcmcimoloiaaGreatDoorAllC
import Derived.Test.YtaphcmcimoloiaaGreatDoorBmC
namespace Go.Proofs.YtaphcmcimoloiaaGreatDoor
open Go Go.RowKit Txt Sp

theorem cv_nm (k : Nat) (hk : k < 32) (W : World) (c : Nat) (h : W.heap[c]? = some (.cells #[.int .u8 (65 + (k : Int))] 5 (0, 0))) : (convert 53 9 (.slice (some ⟨c, 0, none⟩) 1 1)).run Tryz.prog W = .ok (.string (nmF k)) W :=
  bytes_text (l := [UInt8.ofNat (65 + k)]) Tryz.underlying53 Tryz.underlying5 Tryz.underlying9 h (fun j hj => by
    match j, hj with
    | 0, _ =>
      show some (Value.int .u8 (65 + (k : Int))) = some (.int .u8 ((UInt8.ofNat (65 + k)).toNat : Int))
      rw [UInt8.toNat_ofNat', show (65 + k) % 2 ^ 8 = 65 + k by omega]
      rfl) 1
section
set_option maxHeartbeats 8000000
set_option maxRecDepth 20000 in
theorem dfull_any (w : World) (hm : MaxOk w) (bl aw : Int) :
    Calls Tryz.prog 7 #[.int .i64 bl, .int .i64 aw] w fun e w' => e = .returned (.bool true) ∧ Below w.heap.size w w' := by
  have ham := fun W : World => amongJ_any W bl 8 (by decide) (by decide)
  have hab := amongJ_bd bl 8 (by decide)
  obtain ⟨b, hb⟩ : ∃ b : Nat, amongJ bl 8 = (b : Int) - 1 := ⟨(amongJ bl 8 + 1).toNat, by omega⟩
  rw [hb] at ham hab
  simp only [show ((8 : Nat) : Int) = 8 from rfl] at ham
  have h1 : 1 ≤ b := by omega
  have h8 : b ≤ 8 := by omega
  clear hb hab
  obtain ⟨n, hn⟩ : ∃ n, 4 * b = n := ⟨_, rfl⟩
  have e1 : IntKind.i64.wrap (1 + ((b : Int) - 1)) = (b : Int) := by rw [IntWalk.i64_in _ (by omega)]; omega
  have e2 : IntKind.i64.wrap (4 * (b : Int)) = (n : Int) := by rw [IntWalk.i64_in _ (by omega)]; omega
  have e3 : IntKind.i64.wrap (64 * (b : Int)) = ((64 * b : Nat) : Int) := by rw [IntWalk.i64_in _ (by omega)]; omega
  have hld := fun W : World => laid17_any W (gFull_ok h1 h8)
  have hwk := fun (W : World) (hW : MaxOk W) => works17_any W hW
  have hst := full_start h1 h8
  have hadd := fun (wr : World) (base B Bd : Nat) (D : Nat → Prop) (S : Sp.Side) (k : Nat) (hM : DMem w base B Bd (gFull b) S D wr) (h : FullI b S k) (hk : k < n) (vk : Value) (hv : ∀ W, Turn D wr W → Ints W vk [0]) => full_add hM hm h1 h8 h (by omega) vk hv
  have hfork := fun (wr : World) (base B Bd : Nat) (D : Nat → Prop) (S : Sp.Side) (hM : DMem w base B Bd (gFull b) S D wr) (h : FullI b S n) => full_fork hM (hn.symm ▸ h) h8
  have hmore := fun (w0 wr : World) (base B Bd B' : Nat) (D D' : Nat → Prop) (S : Sp.Side) (hM0 : DMem w base B Bd (gFull b) S D w0) (hM : DMem w base B Bd (gFull b) S D wr) (h : FullI b S n) (hs : SideAt wr w0.heap.size B' Bd S D') (hl : ∀ j, D' j → w0.heap.size ≤ j ∧ j < wr.heap.size) (vk : Value) (hv : ∀ W, Turn D' wr W → Ints W vk [0]) =>
    full_more hM hm h1 h8 (hn.symm ▸ h) hs hl hM0.lt hM0.lo hM0.side.baseLe vk hv
  have hload := fun (base B Bd : Nat) (S : Sp.Side) (h : FullI b S n) => full_load (w := w) (base := base) (B := B) (Bd := Bd) h1 h8 (hn.symm ▸ h)
  have hrem := fun (wr : World) (base B Bd : Nat) (D : Nat → Prop) (S : Sp.Side) (hM : DMem w base B Bd (gFull b) S D wr) (h : FullI b S n) (j : Nat) (hj : j < n) => full_remove hM hm h1 h8 (hn.symm ▸ h) j (by omega)
  have hlast := fun (wr : World) (base B Bd : Nat) (D : Nat → Prop) (S : Sp.Side) (hM : DMem w base B Bd (gFull b) S D wr) (h : FullJ b S) (vk : Value) (hv : ∀ W, Turn D wr W → Ints W vk [0]) => full_last hM hm h1 h8 h vk hv
  have hnam := fun (wr : World) (base B Bd : Nat) (D : Nat → Prop) (S : Sp.Side) (hM : DMem w base B Bd (gFull b) S D wr) (h : FullE b S) => full_names hM hm h1 h8 h
  have hcv := fun (k : Nat) (hk : k < n) => cv_nm k (by omega)
  have hn32 : n ≤ 32 := by omega
  have hn1 : 0 < n := by omega
  simp only [hn] at hnam
  obtain ⟨S0, hS0⟩ : ∃ S, freshSide (gFull b) 0 0 = S := ⟨_, rfl⟩
  rw [hS0] at hld hst
  clear hS0 hn
  have heq := eql_disk_nil
  have heq2 := eql_soft_nil
  unfold gFull gV at hld
  unfold pt at hld
  dsimp only at hld
  have HM := Lib.hid hm
  have HAM := Lib.hid ham
  have HLD := Lib.hid hld
  have HWK := Lib.hid hwk
  have HST := Lib.hid hst
  have HADD := Lib.hid hadd
  have HFORK := Lib.hid hfork
  have HMORE := Lib.hid hmore
  have HLOAD := Lib.hid hload
  have HREM := Lib.hid hrem
  have HLAST := Lib.hid hlast
  have HNAM := Lib.hid hnam
  have HCV := Lib.hid hcv
  clear ham hld hwk hst hadd hfork hmore hload hrem hlast hnam hcv
  clear hm
  go_enter Tryz.func7, Tryz.ntmps7
  go_wp2_with fail
  refine (HAM.out _).mono ?_
  rintro e w' ⟨rfl, hw'⟩
  subst hw'
  clear HAM
  obtain ⟨W1, hW1⟩ : ∃ W, w'.alloc (.cells #[.int .i64 1, .int .i64 1, .int .i64 (b : Int)] 27) = W := ⟨_, rfl⟩
  have HB1 : Hid (Below w'.heap.size w' W1) := by rw [← hW1]; exact bl2 _
  have HG1 : Hid (W1.heap[w'.heap.size]? = some (.cells #[.int .i64 1, .int .i64 1, .int .i64 (b : Int)] 27 (0, 0))) := by rw [← hW1]; exact heapNew w' _
  have HZ1 : Hid (w'.heap.size < W1.heap.size) := by rw [← hW1]; show _ < _; simp
  have z0 := cellOf (k := 0) HG1.out rfl
  have z1 := cellOf (k := 1) HG1.out rfl
  have z2 := cellOf (k := 2) HG1.out rfl
  go_wp2_with fail
  clear z0 z1 z2 hW1
  refine (HLD.out _).mono ?_
  rintro e w2 ⟨base, B, Bd, D, rfl, hs2, hb2, hD2⟩
  have HM2 : Hid (DMem w' base B Bd (gFull b) S0 D w2) := by
    have hz := HZ1.out
    exact ⟨hs2, fun j hj => (hD2 j hj).2, fun j hj => by have := (hD2 j hj).1; omega, heapOld hb2 HG1.out, blN HB1.out hb2⟩
  clear hs2 hb2 hD2 HG1 HB1 HZ1 HLD
  go_wp2_with fail
  refine (HWK.out _ (HM2.out.max HM.out)).mono ?_
  rintro e w3 ⟨rfl, hb3⟩
  have HM3 := Lib.hid (HM2.out.below hb3)
  clear hb3 HM2 HWK
  go_wp2
  go_loopw [45] (fun q wr => ∃ (k : Nat) (S : Sp.Side) (D : Nat → Prop), k ≤ n ∧ q = .int .i64 (k : Int) ∧ Hid (FullI b S k) ∧ Hid (DMem w' base B Bd (gFull b) S D wr)) (fun q _ => n - (intOf q).toNat)
  case atStart => exact ⟨0, S0, D, Nat.zero_le _, rfl, HST, HM3⟩
  case round =>
    clear HM3 HST
    obtain ⟨k, S, D, hk, rfl, HI, HMr⟩ := hrel
    have hall : ∀ W, Below wr.heap.size wr W → (W.cell? ⟨w'.heap.size, 0, none⟩ = some (.int .i64 1) ∧ W.cell? ⟨w'.heap.size, 1, none⟩ = some (.int .i64 1) ∧ W.cell? ⟨w'.heap.size, 2, none⟩ = some (.int .i64 (b : Int))) := fun W hW => by
      have hM := HMr.out.below hW
      exact ⟨cellOf (k := 0) hM.box rfl, cellOf (k := 1) hM.box rfl, cellOf (k := 2) hM.box rfl⟩
    have HAll := Lib.hid hall
    clear hall
    by_cases hkn : k < n
    · have had := fun (W : World) (hW : Below wr.heap.size wr W) (a : Nat) (hz : W.heap[a]? = some (.cells #[.int .i64 0] 3 (0, 0))) (ha : wr.heap.size ≤ a) => HADD.out W base B Bd D S k (HMr.out.below hW) HI.out hkn (.slice (some ⟨a, 0, none⟩) 1 1) (fun W' hT => ints_lone (hT.heap hz (fun hd => by have := HMr.out.lt _ hd; omega)))
      unfold gFull gV pt eV at had
      dsimp only at had
      have hcvk := HCV.out k hkn
      have q1 : decide ((k : Int) < (n : Int)) = true := decide_eq_true (by omega)
      have e4 : IntKind.i64.wrap (65 + (k : Int)) = 65 + (k : Int) := IntWalk.i64_in _ (by omega)
      have e5 : IntKind.u8.wrap (65 + (k : Int)) = 65 + (k : Int) := IntWalk.u8_in _ (by omega)
      have HAD := Lib.hid had
      clear had
      obtain ⟨z0, z1, z2⟩ := HAll.out wr (Below.refl _ _)
      have c1 := hcvk (wr.alloc (.cells #[.int .u8 (65 + (k : Int))] 5)) wr.heap.size (heapNew wr _)
      clear hcvk
      go_wp2_with fail
      clear z0 z1 z2 c1
      refine (HAD.out _ (bl1 (bl2 _) _) (wr.heap.size + 1) ?_ (by omega)).mono ?_
      · have := heapNew (wr.alloc (.cells #[.int .u8 (65 + (k : Int))] 5)) (.cells #[.int .i64 0] 3)
        rwa [show (wr.alloc (.cells #[.int .u8 (65 + (k : Int))] 5)).heap.size = wr.heap.size + 1 by simp] at this
      rintro e w4 ⟨v, rfl, S', D', hM4, hI4⟩
      have HM4 := Lib.hid hM4
      have HI4 := Lib.hid hI4
      clear hM4 hI4
      go_wp2
      go_roundw
      case rel => exact ⟨k + 1, S', D', by omega, by go_num, HI4, HM4⟩
      case measure => simp [intOf]; omega
    · obtain rfl : k = n := by omega
      have q1 : decide ((k : Int) < (k : Int)) = false := decide_eq_false (by omega)
      clear HADD
      go_wp2_with fail
      refine (HFORK.out _ _ _ _ _ _ HMr.out HI.out).mono ?_
      rintro e w5 ⟨B', D', rfl, hs5, hM5, hl5⟩
      have HM5 := Lib.hid hM5
      obtain ⟨z0, z1, z2⟩ : w5.cell? ⟨w'.heap.size, 0, none⟩ = some (.int .i64 1) ∧ w5.cell? ⟨w'.heap.size, 1, none⟩ = some (.int .i64 1) ∧ w5.cell? ⟨w'.heap.size, 2, none⟩ = some (.int .i64 (b : Int)) := ⟨cellOf (k := 0) hM5.box rfl, cellOf (k := 1) hM5.box rfl, cellOf (k := 2) hM5.box rfl⟩
      have had := fun (a : Nat) (W : World) (hW : Below w5.heap.size w5 W) (hz : W.heap[a]? = some (.cells #[.int .i64 0] 3 (0, 0))) (ha : w5.heap.size ≤ a) => HMORE.out wr W base B Bd B' D D' S HMr.out (HM5.out.below hW) HI.out (hs5.below hW) (fun j hj => ⟨(hl5 j hj).1, Nat.lt_of_lt_of_le (hl5 j hj).2 hW.size⟩) (.slice (some ⟨a, 0, none⟩) 1 1) (fun W' hT => ints_lone (hT.heap hz (fun hd => by have := (hl5 _ hd).2; omega)))
      unfold gFull gV pt eV moreB at had
      dsimp only at had
      have HAD := Lib.hid had
      clear had hM5 HMORE hs5 hl5
      go_wp2_with fail
      clear z0 z1 z2
      refine (HAD.out w5.heap.size _ (bl2 _) (heapNew w5 _) (Nat.le_refl _)).mono ?_
      rintro e w6 ⟨rfl, hM6⟩
      have HM6 := Lib.hid hM6
      clear hM6
      clear HAD HM5
      have hlo := HLOAD.out base B Bd S HI.out
      obtain ⟨nd, hnz, hlo⟩ := hlo
      unfold gFull gV pt nA iA at hlo
      dsimp only at hlo
      obtain ⟨x0, hx0⟩ : ∃ x, nd.kind = x := ⟨_, rfl⟩
      obtain ⟨x1, hx1⟩ : ∃ x, nd.links = x := ⟨_, rfl⟩
      obtain ⟨x3, hx3⟩ : ∃ x, nd.parent = x := ⟨_, rfl⟩
      obtain ⟨x4, hx4⟩ : ∃ x, nd.gen = x := ⟨_, rfl⟩
      obtain ⟨d0, hd0⟩ : ∃ x, nd.direct.getD 0 0 = x := ⟨_, rfl⟩
      obtain ⟨d1, hd1⟩ : ∃ x, nd.direct.getD 1 0 = x := ⟨_, rfl⟩
      obtain ⟨d2, hd2⟩ : ∃ x, nd.direct.getD 2 0 = x := ⟨_, rfl⟩
      obtain ⟨d3, hd3⟩ : ∃ x, nd.direct.getD 3 0 = x := ⟨_, rfl⟩
      obtain ⟨d4, hd4⟩ : ∃ x, nd.direct.getD 4 0 = x := ⟨_, rfl⟩
      obtain ⟨d5, hd5⟩ : ∃ x, nd.direct.getD 5 0 = x := ⟨_, rfl⟩
      obtain ⟨d6, hd6⟩ : ∃ x, nd.direct.getD 6 0 = x := ⟨_, rfl⟩
      obtain ⟨d7, hd7⟩ : ∃ x, nd.direct.getD 7 0 = x := ⟨_, rfl⟩
      obtain ⟨x6, hx6⟩ : ∃ x, nd.more = x := ⟨_, rfl⟩
      rw [hnz, hx0, hx1, hx3, hx4, hd0, hd1, hd2, hd3, hd4, hd5, hd6, hd7, hx6] at hlo
      obtain ⟨x2, hx2⟩ : ∃ x : Int, ((64 * b : Nat) : Int) = x := ⟨_, rfl⟩
      rw [hx2] at hlo e3
      clear hnz hx0 hx1 hx3 hx4 hd0 hd1 hd2 hd3 hd4 hd5 hd6 hd7 hx6 hx2 HLOAD
      have hload6 := fun (W : World) (hW : Below w6.heap.size w6 W) => hlo W D (HM6.out.below hW)
      have HLO := Lib.hid hload6
      clear hlo hload6
      have hall6 : ∀ W, Below w6.heap.size w6 W → (W.cell? ⟨w'.heap.size, 0, none⟩ = some (.int .i64 1) ∧ W.cell? ⟨w'.heap.size, 1, none⟩ = some (.int .i64 1) ∧ W.cell? ⟨w'.heap.size, 2, none⟩ = some (.int .i64 (b : Int))) := fun W hW => by
        have hM := HM6.out.below hW
        exact ⟨cellOf (k := 0) hM.box rfl, cellOf (k := 1) hM.box rfl, cellOf (k := 2) hM.box rfl⟩
      have HA6 := Lib.hid hall6
      clear hall6
      obtain ⟨z0, z1, z2⟩ := HA6.out w6 (Below.refl _ _)
      go_upto_region 18 with fail
      go_cut [15, 16] (fun s15 s16 wx => LoadCut w6 [.int .i64 x0, .int .i64 x1, .int .i64 x2, .int .i64 x3, .int .i64 x4, .int .i64 d0, .int .i64 d1, .int .i64 d2, .int .i64 d3, .int .i64 d4, .int .i64 d5, .int .i64 d6, .int .i64 d7, .int .i64 x6] s16 s15 wx)
      case first =>
        go_wp2_with fail
        clear z0 z1 z2
        refine (HLO.out _ (Below.refl _ _)).mono ?_
        rintro e w7 ⟨rfl, hb7⟩
        have HB7 := Lib.hid hb7
        clear hb7
        go_wp2_with fail
        go_meet
        case rel => exact load_new HB7.out
      case rest =>
        obtain ⟨rfl, q, rfl, hz, hbc⟩ := hcut
        have hz2 : wc.cell? ⟨q, 2, none⟩ = some (.int .i64 x2) := cellOf (k := 2) hz rfl
        have HMc := Lib.hid (HM6.out.below hbc)
        clear hz hbc HM6 HA6 HLO
        have hamg := fun W : World => amongJ_any W aw k hn1 (by omega)
        obtain ⟨ha0, hak⟩ := amongJ_bd aw k hn1
        obtain ⟨j, hj⟩ : ∃ j : Nat, amongJ aw k = (j : Int) := ⟨(amongJ aw k).toNat, by omega⟩
        rw [hj] at hamg ha0 hak
        have hjk : j < k := by omega
        have hcvj := HCV.out j hjk
        have e4 : IntKind.i64.wrap (65 + (j : Int)) = 65 + (j : Int) := IntWalk.i64_in _ (by omega)
        have e5 : IntKind.u8.wrap (65 + (j : Int)) = 65 + (j : Int) := IntWalk.u8_in _ (by omega)
        have hre := fun (W : World) (hW : Below wc.heap.size wc W) => HREM.out W base B Bd D S (HMc.out.below hW) HI.out j hjk
        unfold gFull gV pt at hre
        dsimp only at hre
        have hallc : ∀ W, Below wc.heap.size wc W → (W.cell? ⟨w'.heap.size, 0, none⟩ = some (.int .i64 1) ∧ W.cell? ⟨w'.heap.size, 1, none⟩ = some (.int .i64 1) ∧ W.cell? ⟨w'.heap.size, 2, none⟩ = some (.int .i64 (b : Int))) := fun W hW => by
          have hM := HMc.out.below hW
          exact ⟨cellOf (k := 0) hM.box rfl, cellOf (k := 1) hM.box rfl, cellOf (k := 2) hM.box rfl⟩
        have HAM := Lib.hid hamg
        have HRE := Lib.hid hre
        have HAC := Lib.hid hallc
        have HCVJ := Lib.hid hcvj
        clear hamg hre hallc hcvj HCV HREM ha0 hak hj
        go_upto_region 21 with fail
        clear hz2
        have hSd := HAC.out wc.drew (blD (Below.refl _ _))
        refine wp_region_last (fun W => (W.cell? ⟨w'.heap.size, 0, none⟩ = some (.int .i64 1) ∧ W.cell? ⟨w'.heap.size, 1, none⟩ = some (.int .i64 1) ∧ W.cell? ⟨w'.heap.size, 2, none⟩ = some (.int .i64 (b : Int)))) 9 (by kernel_rfl) (by first | trivial | assumption) (fun hHeld hClosed => ?_)
        refine AnyU.take (i := 0) (v := ?_) (by kernel_rfl) (by decide) hClosed rfl (by kernel_rfl) (by kernel_rfl) (by kernel_rfl) (fun _ _ _ h => h) (Or.inl ⟨by rfl, ?_⟩) (by first | exact fun _ => hHeld | exact fun h => absurd h (by decide)) (fun hClosed2 => ?_)
        rotate_left
        · (intro w hSw; first | (go_simp; done) | (go_simp; with_reducible rfl))
        clear hClosed; have hClosed := hClosed2; clear hClosed2
        simp only [Act.put, List.setIfInBounds_toArray, List.set_cons_zero, List.set_cons_succ, List.getElem_toArray, List.getElem_cons_zero]
        refine AnyU.take (i := 1) (v := ?_) (by kernel_rfl) (by decide) hClosed rfl (by kernel_rfl) (by kernel_rfl) (by kernel_rfl) (fun _ _ _ h => h) (Or.inl ⟨by rfl, ?_⟩) (by first | exact fun _ => hHeld | exact fun h => absurd h (by decide)) (fun hClosed2 => ?_)
        rotate_left
        · (intro w hSw; first | (go_simp; done) | (go_simp; with_reducible rfl))
        clear hClosed; have hClosed := hClosed2; clear hClosed2
        simp only [Act.put, List.setIfInBounds_toArray, List.set_cons_zero, List.set_cons_succ, List.getElem_toArray, List.getElem_cons_zero, List.getElem_cons_succ]
        refine AnyU.take (i := 2) (v := ?_) (by kernel_rfl) (by decide) hClosed rfl (by kernel_rfl) (by kernel_rfl) (by kernel_rfl) (fun _ _ _ h => h) (Or.inl ⟨by rfl, ?_⟩) (by first | exact fun _ => hHeld | exact fun h => absurd h (by decide)) (fun hClosed2 => ?_)
        rotate_left
        · (intro w hSw; first | (go_simp; done) | (go_simp; with_reducible rfl))
        clear hClosed; have hClosed := hClosed2; clear hClosed2
        simp only [Act.put, List.setIfInBounds_toArray, List.set_cons_zero, List.set_cons_succ, List.getElem_toArray, List.getElem_cons_zero, List.getElem_cons_succ]
        refine AnyU.take (i := 3) (v := ?_) (by kernel_rfl) (by decide) hClosed rfl (by kernel_rfl) (by kernel_rfl) (by kernel_rfl) (fun _ _ _ h => h) (Or.inl ⟨by rfl, ?_⟩) (by first | exact fun _ => hHeld | exact fun h => absurd h (by decide)) (fun hClosed2 => ?_)
        rotate_left
        · (intro w hSw; first | (go_simp; done) | (go_simp; with_reducible rfl))
        clear hClosed; have hClosed := hClosed2; clear hClosed2
        simp only [Act.put, List.setIfInBounds_toArray, List.set_cons_zero, List.set_cons_succ, List.getElem_toArray, List.getElem_cons_zero, List.getElem_cons_succ]
        refine AnyU.each (is := [4]) (by kernel_rfl) (by simp) (EachU.cons hClosed (by kernel_rfl) rfl (fun K hK => ?_) EachU.nil)
        try simp only [List.getElem_toArray, List.getElem_cons_zero, List.getElem_cons_succ]
        go_simp
        refine (HAM.out _).mono ?_
        rintro e w4 ⟨rfl, hw4⟩
        subst hw4
        try simp only
        refine hK.out _ _ (fun _ => ?hkS) (fun hHeld2 hClosed2 => ?_)
        case hkS =>
          exact hSd
        clear hHeld; have hHeld := hHeld2 (by decide)
        clear hK K hHeld2 hClosed; have hClosed := hClosed2; clear hClosed2
        try simp only [Act.put, List.setIfInBounds_toArray, List.set_cons_zero, List.set_cons_succ, List.getElem_toArray, List.getElem_cons_zero, List.getElem_cons_succ]
        refine AnyU.take (i := 5) (v := ?_) (by kernel_rfl) (by decide) hClosed rfl (by kernel_rfl) (by kernel_rfl) (by kernel_rfl) (fun _ _ _ h => h) (Or.inl ⟨by rfl, ?_⟩) (by first | exact fun _ => hHeld | exact fun h => absurd h (by decide)) (fun hClosed2 => ?_)
        rotate_left
        · (intro w hSw; first | (go_simp; done) | (go_simp; with_reducible rfl))
        clear hClosed; have hClosed := hClosed2; clear hClosed2
        simp only [Act.put, List.setIfInBounds_toArray, List.set_cons_zero, List.set_cons_succ, List.getElem_toArray, List.getElem_cons_zero, List.getElem_cons_succ]
        refine AnyU.take (i := 6) (v := ?_) (by kernel_rfl) (by decide) hClosed rfl (by kernel_rfl) (by kernel_rfl) (by kernel_rfl) (fun _ _ _ h => h) (Or.inl ⟨by rfl, ?_⟩) (by first | exact fun _ => hHeld | exact fun h => absurd h (by decide)) (fun hClosed2 => ?_)
        rotate_left
        · (intro w hSw; first | (go_simp; done) | (go_simp; with_reducible rfl))
        clear hClosed; have hClosed := hClosed2; clear hClosed2
        simp only [Act.put, List.setIfInBounds_toArray, List.set_cons_zero, List.set_cons_succ, List.getElem_toArray, List.getElem_cons_zero, List.getElem_cons_succ]
        refine AnyU.each (is := [7]) (by kernel_rfl) (by simp) (EachU.cons hClosed (by kernel_rfl) rfl (fun K hK => ?_) EachU.nil)
        try simp only [List.getElem_toArray, List.getElem_cons_zero, List.getElem_cons_succ]
        go_simp
        try simp only
        refine hK.out _ _ (fun _ => ?hkS) (fun hHeld2 hClosed2 => ?_)
        case hkS =>
          exact HAC.out _ (bl1 (blD (Below.refl _ _)) _)
        clear hHeld; have hHeld := hHeld2 (by decide)
        clear hK K hHeld2 hClosed; have hClosed := hClosed2; clear hClosed2
        try simp only [Act.put, List.setIfInBounds_toArray, List.set_cons_zero, List.set_cons_succ, List.getElem_toArray, List.getElem_cons_zero, List.getElem_cons_succ]
        refine AnyU.each (is := [8]) (by kernel_rfl) (by simp) (EachU.cons hClosed (by kernel_rfl) rfl (fun K hK => ?_) EachU.nil)
        have c1 : (convert 53 9 (.slice (some ⟨wc.heap.size, 0, none⟩) 1 1)).run Tryz.prog (wc.alloc (.cells #[.int .u8 (65 + (j : Int))] 5)).drew = .ok (.string (nmF j)) (wc.alloc (.cells #[.int .u8 (65 + (j : Int))] 5)).drew := HCVJ.out _ _ (heapNew wc.drew (.cells #[.int .u8 (65 + (j : Int))] 5))
        try simp only [List.getElem_toArray, List.getElem_cons_zero, List.getElem_cons_succ]
        go_simp
        clear c1
        try simp only
        refine hK.out _ _ (fun _ => ?hkS) (fun hHeld2 hClosed2 => ?_)
        case hkS =>
          exact HAC.out _ (bl1 (blD (Below.refl _ _)) _)
        clear hHeld; have hHeld := hHeld2 (by decide)
        clear hK K hHeld2 hClosed; have hClosed := hClosed2; clear hClosed2
        try simp only [Act.put, List.setIfInBounds_toArray, List.set_cons_zero, List.set_cons_succ, List.getElem_toArray, List.getElem_cons_zero, List.getElem_cons_succ]
        refine AnyU.each (is := [9]) (by kernel_rfl) (by simp) (EachU.cons hClosed (by kernel_rfl) rfl (fun K hK => ?_) EachU.nil)
        try simp only [List.getElem_toArray, List.getElem_cons_zero, List.getElem_cons_succ]
        go_simp
        refine (HRE.out _ (bl1 (blD (Below.refl _ _)) _)).mono ?_
        rintro e w8 ⟨a, rfl, S', D', hM8, hI8⟩
        try simp only
        refine hK.out _ _ (fun h => absurd h (by decide)) (fun _ hClosed2 => ?_)
        clear hK K hClosed; have hClosed := hClosed2; clear hClosed2
        try simp only [Act.put, List.setIfInBounds_toArray, List.set_cons_zero, List.set_cons_succ, List.getElem_toArray, List.getElem_cons_zero, List.getElem_cons_succ]
        refine AnyU.pure (i := 10) (v := ?_) (by decide) hClosed rfl (by kernel_rfl) (by kernel_rfl) (by kernel_rfl) (fun _ _ _ h => h) (Or.inl ⟨by rfl, ?_⟩) (by first | exact fun _ => hHeld | exact fun h => absurd h (by decide)) (fun hClosed2 => ?_)
        rotate_left
        · (intro w hSw; first | (go_simp; done) | (go_simp; with_reducible rfl))
        clear hClosed; have hClosed := hClosed2; clear hClosed2
        simp only [Act.put, List.setIfInBounds_toArray, List.set_cons_zero, List.set_cons_succ, List.getElem_toArray, List.getElem_cons_zero, List.getElem_cons_succ]
        refine AnyU.pure (i := 11) (v := ?_) (by decide) hClosed rfl (by kernel_rfl) (by kernel_rfl) (by kernel_rfl) (fun _ _ _ h => h) (Or.inl ⟨by rfl, ?_⟩) (by first | exact fun _ => hHeld | exact fun h => absurd h (by decide)) (fun hClosed2 => ?_)
        rotate_left
        · (intro w hSw; first | (go_simp; done) | (go_simp; with_reducible rfl))
        clear hClosed; have hClosed := hClosed2; clear hClosed2
        simp only [Act.put, List.setIfInBounds_toArray, List.set_cons_zero, List.set_cons_succ, List.getElem_toArray, List.getElem_cons_zero, List.getElem_cons_succ]
        refine AnyU.pure (i := 12) (v := ?_) (by decide) hClosed rfl (by kernel_rfl) (by kernel_rfl) (by kernel_rfl) (fun _ _ _ h => h) (Or.inl ⟨by rfl, ?_⟩) (by first | exact fun _ => hHeld | exact fun h => absurd h (by decide)) (fun hClosed2 => ?_)
        rotate_left
        · (intro w hSw; first | (go_simp; done) | (go_simp; with_reducible rfl))
        clear hClosed; have hClosed := hClosed2; clear hClosed2
        simp only [Act.put, List.setIfInBounds_toArray, List.set_cons_zero, List.set_cons_succ, List.getElem_toArray, List.getElem_cons_zero, List.getElem_cons_succ]
        refine AnyU.pure (i := 13) (v := ?_) (by decide) hClosed rfl (by kernel_rfl) (by kernel_rfl) (by kernel_rfl) (fun _ _ _ h => h) (Or.inl ⟨by rfl, ?_⟩) (by first | exact fun _ => hHeld | exact fun h => absurd h (by decide)) (fun hClosed2 => ?_)
        rotate_left
        · (intro w hSw; first | (go_simp; done) | (go_simp; with_reducible rfl))
        clear hClosed; have hClosed := hClosed2; clear hClosed2
        simp only [Act.put, List.setIfInBounds_toArray, List.set_cons_zero, List.set_cons_succ, List.getElem_toArray, List.getElem_cons_zero, List.getElem_cons_succ]
        refine AnyU.pure (i := 14) (v := ?_) (by decide) hClosed rfl (by kernel_rfl) (by kernel_rfl) (by kernel_rfl) (fun _ _ _ h => h) (Or.inl ⟨by rfl, ?_⟩) (by first | exact fun _ => hHeld | exact fun h => absurd h (by decide)) (fun hClosed2 => ?_)
        rotate_left
        · (intro w hSw; first | (go_simp; done) | (go_simp; with_reducible rfl))
        clear hClosed; have hClosed := hClosed2; clear hClosed2
        simp only [Act.put, List.setIfInBounds_toArray, List.set_cons_zero, List.set_cons_succ, List.getElem_toArray, List.getElem_cons_zero, List.getElem_cons_succ]
        refine AnyU.done (by kernel_rfl) ?_ _
        have HM8 := Lib.hid hM8
        have HI8 := Lib.hid hI8
        clear hM8 hI8
        clear hSd hHeld hClosed HRE HAC HCVJ HAM
        obtain ⟨z0, z1, z2⟩ : w8.cell? ⟨w'.heap.size, 0, none⟩ = some (.int .i64 1) ∧ w8.cell? ⟨w'.heap.size, 1, none⟩ = some (.int .i64 1) ∧ w8.cell? ⟨w'.heap.size, 2, none⟩ = some (.int .i64 (b : Int)) := ⟨cellOf (k := 0) HM8.out.box rfl, cellOf (k := 1) HM8.out.box rfl, cellOf (k := 2) HM8.out.box rfl⟩
        have hla := fun (a : Nat) (W : World) (hW : Below w8.heap.size w8 W) (hz : W.heap[a]? = some (.cells #[.int .i64 0] 3 (0, 0))) (ha : w8.heap.size ≤ a) => HLAST.out W base B Bd D' S' (HM8.out.below hW) HI8.out (.slice (some ⟨a, 0, none⟩) 1 1) (fun W' hT => ints_lone (hT.heap hz (fun hd => by have := HM8.out.lt _ hd; omega)))
        unfold gFull gV pt eV moreB at hla
        dsimp only at hla
        have HLA := Lib.hid hla
        clear hla HLAST
        go_wp2_with fail
        clear z0 z1 z2
        refine (HLA.out w8.heap.size _ (bl2 _) (heapNew w8 _) (Nat.le_refl _)).mono ?_
        rintro e w9 ⟨v, L, rfl, hv9, hL9, S2, D2, hM9, hI9⟩
        obtain ⟨ad1, n1, cap1, rfl, HLen1, -, -⟩ := RowAt.facts (OwnR.row (f := intC) (fun _ _ => rfl) hv9)
        have l1 : n1 = 1 := HLen1.out.trans hL9
        subst l1
        obtain ⟨z0, z1, z2⟩ : w9.cell? ⟨w'.heap.size, 0, none⟩ = some (.int .i64 1) ∧ w9.cell? ⟨w'.heap.size, 1, none⟩ = some (.int .i64 1) ∧ w9.cell? ⟨w'.heap.size, 2, none⟩ = some (.int .i64 (b : Int)) := ⟨cellOf (k := 0) hM9.box rfl, cellOf (k := 1) hM9.box rfl, cellOf (k := 2) hM9.box rfl⟩
        have hna := HNAM.out w9 base B Bd D2 S2 hM9 hI9
        unfold gFull gV pt at hna
        dsimp only at hna
        have HNA := Lib.hid hna
        have HM9 := Lib.hid hM9
        have HI9 := Lib.hid hI9
        clear hna hM9 hI9
        clear HLA HM8 HI8 hv9 hL9 HLen1 HNAM
        go_wp2_with fail
        clear z0 z1 z2
        refine HNA.out.mono ?_
        rintro e w10 ⟨v, N, rfl, hv10, hb10, hN10⟩
        obtain ⟨ad2, n2, cap2, rfl, HLen2, -, -⟩ := RowAt.facts (OwnR.row (f := strC) (fun _ _ => rfl) hv10)
        have l2 : n2 = k := HLen2.out.trans hN10
        subst l2
        have HB10 := Lib.hid (HM9.out.below hb10).bel
        clear hv10 hb10 hN10 HLen2 HM9 HNA
        go_wp2_with fail
        go_ret
        exact ⟨rfl, HB10.out⟩
end
end Go.Proofs.YtaphcmcimoloiaaGreatDoor
