/-
  The reference's walks: rename.
-/
import Derived.Test.YtcgpmnlondnbhaaGreatDoorRefRemove
import Derived.Test.YtcgpmnlondnbhaaGreatDoorRefMove
import Derived.Test.YtcgpmnlondnbhaaGreatDoorNamesA
import Derived.Deep.DeepCutAuto
import Derived.Deep.CutBlock
namespace Go.Proofs.YtcgpmnlondnbhaaGreatDoor
open Go Go.RowKit Txt Sp

theorem under_names {path dst : ByteArray} {l m : List ByteArray} (h1 : splitN path = (l, 0)) (h2 : splitN dst = (m, 0)) : underN path dst = (decide (full path <+: full dst), 0) := by
  rw [underN_ok h1 h2]
  unfold full
  rw [h1, h2]
  simp only
  congr 1
  rw [Bool.eq_iff_iff, decide_eq_true_iff, decide_eq_true_iff]
  exact lcp_full l m
theorem last_of {dst : ByteArray} {l : List ByteArray} {c : Int} (h : splitN dst = (l, c)) : (lastN dst).2.2 = if c = 0 then (if l = [] then 108 else 0) else c := by
  unfold lastN
  rw [h]
  simp only
  split
  · split <;> rfl
  · rfl
def MvReady (base : Nat) (w : World) (D : Nat → Prop) (r : Nat) (t : Sp.Tree) (path dst : ByteArray) (b : Bool) (p q : List ByteArray) (wx : World) : Prop :=
  ∃ tz : Sp.Tree, t.rename path dst = (tz.move b p q, 0) ∧ RefTo base w D r tz wx ∧ tz.Ok ∧ tz.names.length ≤ 1000000
theorem rname_z {base : Nat} {w : World} {D : Nat → Prop} {r : Nat} {t : Sp.Tree} {vT vN : Value} (h : RefAt base w D r t vT vN) (hok : t.Ok) (hfew : t.names.length ≤ 1000000) {p : List ByteArray} (hp : Sp.Good p) {s : ByteArray} (hs : s = ofL (joinL p)) :
    Calls Tryz.prog 60 #[ptr r, .string s] w fun e w' => ∃ z : Int, e = .returned (.int .i64 z) ∧ w = w' ∧ ((t.find p = none ∧ z = -1) ∨ ∃ (k : Nat) (i : Nat), t.names[k]? = some (p, i) ∧ t.find p = some i ∧ z = (k : Int)) := by
  cases hf : t.find p with
  | none => exact (rname_none h hok hfew hp hf hs).mono fun _ _ ⟨h1, h2⟩ => ⟨_, h1, h2, Or.inl ⟨rfl, rfl⟩⟩
  | some i =>
    obtain ⟨k, hk, hc⟩ := rname_some h hok hfew hf hs
    exact hc.mono fun _ _ ⟨h1, h2⟩ => ⟨_, h1, h2, Or.inr ⟨k, i, hk, rfl, rfl⟩⟩
theorem bne_texts {a b : ByteArray} {c : Bool} (h : (a.toList == b.toList) = c) : (a.toList != b.toList) = !c := by rw [← h]; rfl

section
set_option maxHeartbeats 8000000
variable {base : Nat} {w : World} {D : Nat → Prop} {r : Nat} {t : Sp.Tree} {vT vN : Value}
set_option maxRecDepth 100000 in
theorem rrename_any (h : RefAt base w D r t vT vN) (hok : t.Ok) (hf : Few t) (path dst : ByteArray) (hs : path.size ≤ 4000000000) (hs2 : dst.size ≤ 4000000000) :
    Calls Tryz.prog 38 #[ptr r, .string path, .string dst] w (RefOp base w D r (t.rename path dst)) := by
  obtain ⟨i2, hi, hz0, hz1, hz2⟩ := info_parts infoName
  obtain ⟨gT, cT, rfl⟩ := h.shape hok
  have HR := Lib.hid h
  have HOK := Lib.hid hok
  have HF := Lib.hid hf
  clear h hok hf
  unfold ptr
  obtain ⟨c, hc⟩ : ∃ c, t.dirC path = c := ⟨_, rfl⟩
  have HC := Lib.hid hc
  go_enter Tryz.func38, Tryz.ntmps38
  go_wp2_with fail
  refine (rdir_any HR.out HOK.out HF.out path hs).mono ?_
  rintro e w1 ⟨rfl, hb⟩
  rw [HC.out]
  have HB := Lib.hid hb
  clear hb
  by_cases hc0 : c = 0
  rotate_left
  · have HP : Hid (t.rename path dst = (t, c)) := by show _ = _; unfold Sp.Tree.rename; rw [hc, if_neg hc0]
    have q0 : (c == 0) = false := beq_eq_false_iff_ne.2 hc0
    have q1 : (c != 0) = true := by simp [bne, q0]
    clear hc hc0
    go_wp2
    go_ret
    exact RefOp.same HR.out HB.out HP.out
  subst hc0
  obtain ⟨l, x, ip, hsp, hw, hdd, hfull, htxt, hgood⟩ := dir_zero hc
  have HPt := Lib.hid htxt
  have HPg := Lib.hid hgood
  have HSp := Lib.hid hsp
  clear htxt hgood hw hdd hfull hsp
  cases hfd : t.find (full path) with
  | none =>
    have HP : Hid (t.rename path dst = (t, 100)) := by show _ = _; unfold Sp.Tree.rename; rw [hc, hfd]; rfl
    have HFd := Lib.hid hfd
    clear hc hfd
    go_wp2_with fail
    refine (rname_none (HR.out.below HB.out) HOK.out HF.out.names HPg.out HFd.out HPt.out).mono ?_
    rintro e w2 ⟨rfl, rfl⟩
    go_wp2
    go_ret
    exact RefOp.same HR.out HB.out HP.out
  | some i =>
  obtain ⟨k, hk, hcall⟩ := rname_some (HR.out.below HB.out) HOK.out HF.out.names hfd HPt.out
  have HCall := Lib.hid hcall
  have HK := Lib.hid hk
  have HI := Lib.hid (find_idOf HOK.out hfd)
  obtain ⟨ld, cd, hsd⟩ : ∃ ld cd, splitN dst = (ld, cd) := ⟨_, _, rfl⟩
  have HSd := Lib.hid hsd
  have hlast := last_of hsd
  have HFd := Lib.hid hfd
  have hk0 : ¬ (k : Int) < 0 := by omega
  clear hcall hk hfd
  go_wp2_with fail
  refine HCall.out.mono ?_
  rintro e w2 ⟨rfl, rfl⟩
  go_wp2_with fail
  refine (refSplit_pair HSd _ hs2).mono ?_
  rintro e w2 ⟨vd, rfl, hvd, hb⟩
  obtain ⟨add, capd, rfl, _, _, _⟩ := hvd
  have HB2 := Lib.hid (below_next HB.out hb)
  clear hb
  by_cases hcd : cd = 0
  rotate_left
  · have HP : Hid (t.rename path dst = (t, cd)) := by
      show _ = _
      unfold Sp.Tree.rename
      rw [hc, HFd.out]
      simp only [if_true]
      rw [hlast, if_neg hcd, if_neg hcd]
    have q0 : (cd == 0) = false := beq_eq_false_iff_ne.2 hcd
    have q1 : (cd != 0) = true := by simp [bne, q0]
    clear hc hcd hlast hsd
    go_wp2
    go_ret
    exact RefOp.same HR.out HB2.out HP.out
  subst hcd
  by_cases hld : ld = []
  · have HP : Hid (t.rename path dst = (t, 108)) := by
      show _ = _
      unfold Sp.Tree.rename
      rw [hc, HFd.out]
      simp only [if_true]
      rw [hlast, if_pos rfl, if_pos hld]
      rfl
    have hll : ld.length = 0 := by rw [hld]; rfl
    rw [hll]
    clear hc hld hlast hsd hll
    go_wp2
    go_ret
    exact RefOp.same HR.out HB2.out HP.out
  obtain ⟨nd, hnd⟩ : ∃ nd, ld.length = nd := ⟨_, rfl⟩
  have hnd0 : ((nd : Int) == 0) = false := beq_eq_false_iff_ne.2 (by have := List.length_pos_iff.2 hld; omega)
  rw [hnd]
  rw [if_pos rfl, if_neg hld] at hlast
  have HLast := Lib.hid hlast
  clear hnd hld hlast hsd
  have HRr := Lib.hid (HR.out.below HB2.out)
  obtain ⟨m, hm, _, _, c1, _, hth⟩ := HRr.out.thing HOK.out HF.out HI.out
  obtain ⟨r0, r1, _⟩ := HRr.out.cells
  have hkl := (List.getElem?_eq_some_iff.1 HK.out).1
  obtain ⟨gN, cN, rfl, _, _⟩ := HRr.out.names.form (by omega)
  obtain ⟨_, n1⟩ := HRr.out.names.at' HK.out
  obtain ⟨nT, hnT⟩ : ∃ nT, t.things.length = nT := ⟨_, rfl⟩
  obtain ⟨nN, hnN⟩ : ∃ nN, t.names.length = nN := ⟨_, rfl⟩
  rw [hnT] at hm r0
  rw [hnN] at r1 hkl
  have HTh := Lib.hid hth
  have hm0 : (0 : Int) ≤ (m : Int) := by omega
  have hm1 : (m : Int) < (nT : Int) := by omega
  have hk1 : (0 : Int) ≤ (k : Int) := by omega
  have hk2 : (k : Int) < (nN : Int) := by omega
  clear hth hnT hnN
  obtain ⟨b0, hb0⟩ : ∃ b0, t.isDir i = b0 := ⟨_, rfl⟩
  rw [hb0] at c1
  have HB0 := Lib.hid hb0
  have HUn := Lib.hid (under_names HSp.out HSd.out)
  obtain ⟨un, hun⟩ : ∃ un, decide (full path <+: full dst) = un := ⟨_, rfl⟩
  rw [hun] at HUn
  obtain ⟨eq, heq⟩ : ∃ eq, (dst.toList == path.toList) = eq := ⟨_, rfl⟩
  have hne := bne_texts heq
  go_wp2
  go_quiet ((go_at_call 43; exact Calls.quiet_of_same (HTh.out _)))
  go_wp2_with fail
  refine (refUnder_pair HUn _ hs hs2).mono ?_
  rintro e w3 ⟨rfl, hb⟩
  have HB3 := Lib.hid (below_next (below_drewN HB2.out _) hb)
  clear hb r0 r1 n1 c1
  go_upto_region 15 with fail
  go_cut [76] (fun s76 wx => s76 = .bool (b0 && un && !eq) ∧ wx = w3)
  case first =>
    cases b0 <;> cases un <;> cases eq <;> (go_wp2_with fail; go_meet; case rel => exact ⟨rfl, rfl⟩)
  case rest =>
  obtain ⟨rfl, rfl⟩ := hcut
  obtain ⟨lp, hlp⟩ : ∃ lp, (b0 && un && !eq) = lp := ⟨_, rfl⟩
  rw [hlp]
  have hloop : lp = true ↔ (t.isDir i = true ∧ full path <+: full dst ∧ path ≠ dst) := by
    have h5 := text_eq dst path
    rw [heq] at h5
    rw [← hlp, hb0, ← hun, h5]
    simp only [Bool.and_eq_true, decide_eq_true_eq, Bool.not_eq_true', decide_eq_false_iff_not, and_assoc, ne_eq]
    exact ⟨fun ⟨a1, a2, a3⟩ => ⟨a1, a2, fun e => a3 e.symm⟩, fun ⟨a1, a2, a3⟩ => ⟨a1, a2, fun e => a3 e.symm⟩⟩
  have HLp := Lib.hid hloop
  clear hloop hlp heq hne hun hb0
  cases lp with
  | true =>
    have HP : Hid (t.rename path dst = (t, 107)) := by
      show _ = _
      unfold Sp.Tree.rename
      rw [hc, HFd.out]
      simp only [if_true]
      rw [HLast.out, if_pos rfl, if_pos (HLp.out.1 rfl)]
    clear hc
    go_wp2
    go_ret
    exact RefOp.same HR.out HB3.out HP.out
  | false =>
  have HNl : Hid (¬ (t.isDir i = true ∧ full path <+: full dst ∧ path ≠ dst)) := fun h => by have := HLp.out.2 h; cases this
  obtain ⟨c2, hc2⟩ : ∃ c2, t.dirC dst = c2 := ⟨_, rfl⟩
  have HC2 := Lib.hid hc2
  go_wp2_with fail
  refine (rdir_any (HR.out.below HB3.out) HOK.out HF.out dst hs2).mono ?_
  rintro e w4 ⟨rfl, hb⟩
  rw [HC2.out]
  have HB4 := Lib.hid (below_next HB3.out hb)
  clear hb
  have hren : t.rename path dst = if c2 = 0 then (match t.find (full dst) with
      | none => (t.move (t.isDir i) (full path) (full dst), 0)
      | some j =>
        if i = j then (t, 0) else
        if t.isDir j = true ∧ t.isDir i = false then (t, 102) else
        if t.isDir j = false ∧ t.isDir i = true then (t, 103) else
        if t.isDir j = true ∧ t.kidsL (full dst) ≠ [] then (t, 104) else
        ((t.forget (full dst)).move (t.isDir i) (full path) (full dst), 0)) else (t, c2) := by
    conv => lhs; unfold Sp.Tree.rename
    rw [hc, HFd.out]
    simp only [if_true]
    rw [HLast.out, if_pos rfl, if_neg HNl.out, hc2]
    rfl
  have HRen := Lib.hid hren
  clear hren
  by_cases hc20 : c2 = 0
  rotate_left
  · have HP : Hid (t.rename path dst = (t, c2)) := by show _ = _; rw [HRen.out, if_neg hc20]
    have q0 : (c2 == 0) = false := beq_eq_false_iff_ne.2 hc20
    have q1 : (c2 != 0) = true := by simp [bne, q0]
    clear hc hc2 hc20
    go_wp2
    go_ret
    exact RefOp.same HR.out HB4.out HP.out
  subst hc20
  obtain ⟨l9, x9, ip9, hsp9, hw9, hdd9, hfull9, htxt9, hgood9⟩ := dir_zero hc2
  have HQt := Lib.hid htxt9
  have HQg := Lib.hid hgood9
  have HQn := Lib.hid (full_ne hc2)
  clear htxt9 hgood9 hw9 hdd9 hfull9 hsp9 hc hc2
  obtain ⟨p, hp⟩ : ∃ p, full path = p := ⟨_, rfl⟩
  obtain ⟨q, hq⟩ : ∃ q, full dst = q := ⟨_, rfl⟩
  rw [hp] at HPt HPg HRen HFd
  rw [hq] at HQt HQg HQn HRen
  rw [HB0.out] at HRen
  clear hp hq
  go_wp2_with fail
  refine (rname_z (HR.out.below HB4.out) HOK.out HF.out.names HQg.out HQt.out).mono ?_
  rintro e w5 ⟨z, rfl, rfl, hz⟩
  have HZ := Lib.hid hz
  clear hz
  go_upto_if 87 with fail
  go_cut [] (fun wx => MvReady base w D r t path dst b0 p q wx)
  case first =>
    rcases HZ.out with ⟨hfq, rfl⟩ | ⟨k2, j, hk2, hfq, rfl⟩
    · have HPz : Hid (t.rename path dst = (t.move b0 p q, 0)) := by show _ = _; rw [HRen.out, if_pos trivial, hfq]
      clear hfq
      go_wp2_with fail
      go_meet
      case rel => exact ⟨t, HPz.out, ⟨_, _, HR.out.below HB4.out, Turn.of_below HB4.out⟩, HOK.out, HF.out.names⟩
    have HK2 := Lib.hid hk2
    have HFq := Lib.hid hfq
    have HJ := Lib.hid (find_idOf HOK.out hfq)
    have HR4 := Lib.hid (HR.out.below HB4.out)
    obtain ⟨m2, hm2, _, _, d1, _, hth2⟩ := HR4.out.thing HOK.out HF.out HJ.out
    obtain ⟨s0, s1, _⟩ := HR4.out.cells
    obtain ⟨_, n2⟩ := HR4.out.names.at' hk2
    have hkl2 := (List.getElem?_eq_some_iff.1 hk2).1
    obtain ⟨nT2, hnT2⟩ : ∃ nT, t.things.length = nT := ⟨_, rfl⟩
    obtain ⟨nN2, hnN2⟩ : ∃ nN, t.names.length = nN := ⟨_, rfl⟩
    rw [hnT2] at hm2 s0
    rw [hnN2] at s1 hkl2
    have HTh2 := Lib.hid hth2
    have hj0 : (0 : Int) ≤ (m2 : Int) := by omega
    have hj1 : (m2 : Int) < (nT2 : Int) := by omega
    have hj2 : (0 : Int) ≤ (k2 : Int) := by omega
    have hj3 : (k2 : Int) < (nN2 : Int) := by omega
    clear hth2 hnT2 hnN2 hk2 hfq
    by_cases hij : i = j
    · subst hij
      have HP : Hid (t.rename path dst = (t, 0)) := by show _ = _; rw [HRen.out, if_pos trivial, HFq.out]; simp
      have q0 : ((i : Int) == (i : Int)) = true := beq_iff_eq.2 rfl
      go_wp2
      go_ret
      exact RefOp.same HR.out HB4.out HP.out
    have q0 : ((j : Int) == (i : Int)) = false := beq_eq_false_iff_ne.2 (by omega)
    obtain ⟨b2, hb2⟩ : ∃ b2, t.isDir j = b2 := ⟨_, rfl⟩
    rw [hb2] at d1
    have HB2' := Lib.hid hb2
    have hren2 : t.rename path dst = if b2 = true ∧ b0 = false then (t, 102) else if b2 = false ∧ b0 = true then (t, 103) else if b2 = true ∧ t.kidsL q ≠ [] then (t, 104) else ((t.forget q).move b0 p q, 0) := by
      rw [HRen.out, if_pos trivial, HFq.out]
      simp only
      rw [if_neg hij, hb2]
    have HRen2 := Lib.hid hren2
    have HForg : Hid ((b2 = true → t.kidsL q = []) → (t.forget q).Ok ∧ (t.forget q).names.length ≤ 1000000) := fun h5 =>
      ⟨HOK.out.forget HFq.out (nothing_below HOK.out HFq.out (fun h6 => h5 (by rw [← hb2]; exact h6))), Nat.le_trans (forget_length t q) HF.out.names⟩
    clear hren2 hij hb2
    cases b2 with
    | true =>
      cases b0 with
      | false =>
        have HP : Hid (t.rename path dst = (t, 102)) := by show _ = _; rw [HRen2.out, if_pos ⟨rfl, rfl⟩]
        go_wp2
        go_quiet ((go_at_call 43; exact Calls.quiet_of_same (HTh2.out _)))
        go_wp2
        go_ret
        exact RefOp.same HR.out (below_drewN HB4.out _) HP.out
      | true =>
        obtain ⟨kl, hkl3⟩ : ∃ kl, t.kids q = kl := ⟨_, rfl⟩
        have HKl := Lib.hid hkl3
        have HKn : Hid (kl = [] ↔ t.kidsL q = []) := by
          show kl = [] ↔ _
          rw [← hkl3, ← List.length_eq_zero_iff, kids_length, List.length_eq_zero_iff]
        clear hkl3
        go_wp2
        go_quiet ((go_at_call 43; exact Calls.quiet_of_same (HTh2.out _)))
        go_wp2_with fail
        refine (rkids_any (HR4.out.drewN _) HOK.out HF.out HQg.out (Or.inr ⟨HQt.out, HQn.out⟩) hs2).mono ?_
        rw [HKl.out]
        rintro e w6 ⟨v6, rfl, ho6, hb6⟩
        obtain ⟨ad6, cap6, rfl⟩ := own_shape ho6
        have HB6 := Lib.hid (below_next (below_drewN HB4.out _) hb6)
        obtain ⟨kn, hkn⟩ : ∃ kn, kl.length = kn := ⟨_, rfl⟩
        rw [hkn]
        have HKnn := Lib.hid hkn
        clear ho6 hb6 hkn
        by_cases hk0' : kn = 0
        · have hkl0 : t.kidsL q = [] := HKn.out.1 (List.length_eq_zero_iff.1 (by rw [HKnn.out, hk0']))
          have HPz : Hid (t.rename path dst = ((t.forget q).move true p q, 0)) := by show _ = _; rw [HRen2.out, if_neg (by simp), if_neg (by simp), if_neg (by simp [hkl0])]
          have HF2 := Lib.hid (HForg.out (fun _ => hkl0))
          subst hk0'
          clear hkl0
          go_wp2_with fail
          refine (rforget_any (HR.out.below HB6.out) HOK.out HF.out HK2.out).mono ?_
          rintro e w7 ⟨rfl, vT5, vN5, hA, hTu⟩
          have HA := Lib.hid hA
          have HTu := Lib.hid (turn_next HB6.out hTu)
          clear hA hTu
          go_wp2_with fail
          go_meet
          case rel => exact ⟨_, HPz.out, ⟨_, _, HA.out, HTu.out⟩, HF2.out.1, HF2.out.2⟩
        · have hkl0 : t.kidsL q ≠ [] := fun h5 => hk0' (by rw [← HKnn.out, HKn.out.2 h5]; rfl)
          have HP : Hid (t.rename path dst = (t, 104)) := by show _ = _; rw [HRen2.out]; simp [hkl0]
          have hkp : (0 : Int) < (kn : Int) := by omega
          clear hkl0 hk0'
          go_wp2
          go_ret
          exact RefOp.same HR.out HB6.out HP.out
    | false =>
      cases b0 with
      | true =>
        have HP : Hid (t.rename path dst = (t, 103)) := by show _ = _; rw [HRen2.out, if_neg (by simp), if_pos ⟨rfl, rfl⟩]
        go_wp2
        go_quiet ((go_at_call 43; exact Calls.quiet_of_same (HTh2.out _)))
        go_wp2
        go_ret
        exact RefOp.same HR.out (below_drewN HB4.out _) HP.out
      | false =>
        have HPz : Hid (t.rename path dst = ((t.forget q).move false p q, 0)) := by show _ = _; rw [HRen2.out, if_neg (by simp), if_neg (by simp), if_neg (by simp)]
        have HF2 := Lib.hid (HForg.out (fun h5 => by cases h5))
        go_wp2
        go_quiet ((go_at_call 43; exact Calls.quiet_of_same (HTh2.out _)))
        go_wp2_with fail
        refine (rforget_any (HR4.out.drewN _) HOK.out HF.out HK2.out).mono ?_
        rintro e w7 ⟨rfl, vT5, vN5, hA, hTu⟩
        have HA := Lib.hid hA
        have HTu := Lib.hid (turn_next (below_drewN HB4.out _) hTu)
        clear hA hTu
        go_wp2_with fail
        go_meet
        case rel => exact ⟨_, HPz.out, ⟨_, _, HA.out, HTu.out⟩, HF2.out.1, HF2.out.2⟩
  case rest =>
  obtain ⟨tz, hpz, ⟨vTz, vNz, hrz0, hTz⟩, hokz, hfz⟩ := hcut
  have HPz := Lib.hid hpz
  have HRz := Lib.hid hrz0
  have HTz := Lib.hid hTz
  have HOKz := Lib.hid hokz
  have HFz := Lib.hid hfz
  clear hpz hrz0 hTz hokz hfz
  obtain ⟨n, hn⟩ : ∃ n, tz.names.length = n := ⟨_, rfl⟩
  have hn6 : n ≤ 1000000 := by rw [← hn]; exact HFz.out
  have HN := Lib.hid hn
  have hrz := HRz.out.lt
  obtain ⟨_, z1, _⟩ := HRz.out.cells
  obtain ⟨adz, capz, hvz, _, _⟩ := row_shape HRz.out.names
  rw [hvz, hn] at z1
  clear hn hvz
  go_wp2
  go_loopw [19, 20] (fun out i wr => MoveRel wc tz.names b0 p q n out i wr) (fun _ i _ => n - (intOf i).toNat)
  case atStart => exact ⟨0, Nat.zero_le _, rfl, World.ownsRow_nil _ _ _ _, Below.refl _ _⟩
  case round =>
    obtain ⟨k, hk, rfl, HO, HB⟩ := hrel
    clear z1
    obtain ⟨_, r1, _⟩ := (HRz.out.below HB.out).cells
    by_cases hlt : k < n
    · obtain ⟨x, hx⟩ : ∃ x, tz.names[k]? = some x := ⟨tz.names[k]'(by have := HN.out; omega), List.getElem?_eq_getElem _⟩
      obtain ⟨gN, cN, hvN, _, hgN⟩ := (HRz.out.below HB.out).names.form (by have := HN.out; omega)
      have hrow := (HRz.out.below HB.out).names
      rw [hvN] at hrow r1
      obtain ⟨n0, n1⟩ := hrow.at' hx
      rw [HN.out] at r1
      obtain ⟨s, hs⟩ : ∃ s, ofL (joinL x.1) = s := ⟨_, rfl⟩
      rw [hs] at n0
      have hsz : s.size ≤ 14000000 := by
        rw [← hs]
        exact Nat.le_trans (path_size HOKz.out (List.mem_of_getElem? hx)) (by have := HFz.out; omega)
      have HX := Lib.hid hx
      have hmv := mvCase b0 (q := q) (dst := dst) HPg.out (HOKz.out.good x.1 x.2 (List.mem_of_getElem? hx)) HPt.out HQt.out hs.symm
      have hst : s = ofL (joinL x.1) := hs.symm
      have HSt := Lib.hid hst
      obtain ⟨L1, hL1⟩ : ∃ L1, ((tz.names.take k).map (moved b0 p q)).flatMap nameC = L1 := ⟨_, rfl⟩
      have hO1 : wr.ownsRow wc.heap.size 77 2 u19 k L1 := by
        have h5 := HO.out
        unfold NamesAt at h5
        rw [hL1, List.length_map, List.length_take, HN.out, Nat.min_eq_left hk] at h5
        exact h5
      have HL1 := Lib.hid hL1
      have HO1 := Lib.hid hO1
      obtain ⟨Wx, hWx⟩ : ∃ W, wr.alloc (.cells #[.string s, .int .i64 (x.2 : Int)] 77) = W := ⟨_, rfl⟩
      have hxb : Wx.heap[wr.heap.size]? = some (.cells #[.string s, .int .i64 (x.2 : Int)] 77 (0, 0)) := by rw [← hWx]; exact heap_alloc_new wr _
      have hbx : Below wc.heap.size wc Wx := by rw [← hWx]; exact below_al HB.out _
      have hOx : Wx.ownsRow wc.heap.size 77 2 u19 k L1 := by
        have h5 := hO1.alloc (.cells #[.string s, .int .i64 (x.2 : Int)] 77)
        rw [hWx] at h5
        exact h5
      have e0 : Wx.cell? ⟨wr.heap.size, 0, none⟩ = some (.string s) := cell_of_heap hxb rfl
      have e1 : Wx.cell? ⟨wr.heap.size, 1, none⟩ = some (.int .i64 (x.2 : Int)) := cell_of_heap hxb rfl
      have e2 : Wx.frozen? ⟨wr.heap.size, 0, none⟩ = false := free_of_heap hxb
      have hwrz : wc.heap.size ≤ wr.heap.size := HB.out.size
      have HXb := Lib.hid hxb
      have HBX := Lib.hid hbx
      have HOX := Lib.hid hOx
      clear hs hst hx hrow hvN hL1 hO1 hxb hbx hOx HO
      rcases hmv with ⟨h1, h2, h3⟩ | ⟨h1, h2, h3⟩ | ⟨h1, h2, h3, h4⟩ | ⟨h1, h2, h3, h4, h5⟩ | ⟨h1, h2, h3, h4, h5, h6⟩
      · obtain ⟨s2, hs2⟩ : ∃ s2, dst ++ s.extract path.size s.size = s2 := ⟨_, rfl⟩
        obtain ⟨WS, hWS⟩ : ∃ W, Wx.setCell ⟨wr.heap.size, 0, none⟩ (.string s2) = W := ⟨_, rfl⟩
        have hsb : WS.heap[wr.heap.size]? = some (.cells #[.string s2, .int .i64 (x.2 : Int)] 77 (0, 0)) := by rw [← hWS, heap_setCell_at HXb.out]; rfl
        have hbS : Below wc.heap.size wc WS := by rw [← hWS]; exact HBX.out.setCell hwrz _
        have hOS : WS.ownsRow wc.heap.size 77 2 u19 k L1 := row_keep HOX.out (fun j o hj ho => by
          rw [← hWS, heap_setCell_ne _ (by have := (HO1.out.lt j hj).2; omega)]; exact ho)
        have c0 : WS.cell? ⟨wr.heap.size, 0, none⟩ = some (.string s2) := cell_of_heap hsb rfl
        have c1 : WS.cell? ⟨wr.heap.size, 1, none⟩ = some (.int .i64 (x.2 : Int)) := cell_of_heap hsb rfl
        have HBY := Lib.hid hbS
        have HOY := Lib.hid hOS
        have HT2 : Hid (s2 = ofL (joinL (q ++ x.1.drop p.length))) := by show _ = _; rw [← hs2]; exact h3
        have HM2 := Lib.hid h2
        clear hsb hbS hOS h3 h2 HBX HOX HXb
        have hps : path.size ≤ s.size := by
          have h5 := h1
          rw [text_eq] at h5
          rw [of_decide_eq_true h5]
          exact Nat.le_refl _
        obtain ⟨WZ, hWZ⟩ : ∃ W, WS.alloc (.cells #[.string s2, .int .i64 (x.2 : Int)] 77) = W := ⟨_, rfl⟩
        have hbZ : Below wc.heap.size wc WZ := by rw [← hWZ]; exact below_al HBY.out _
        have HOwnZ : Hid (WZ.ownsRow wc.heap.size 77 2 u19 k L1) := by
          have h5 := HOY.out.alloc (.cells #[.string s2, .int .i64 (x.2 : Int)] 77)
          rw [hWZ] at h5
          exact h5
        have HNew : Hid (∀ j u, [Value.string s2, .int .i64 (x.2 : Int)][j]? = some u → WZ.cell? ((⟨WS.heap.size, 0, none⟩ : Addr).add j) = some u) := by
          rw [← hWZ]
          exact World.news_of_block (cs := #[.string s2, .int .i64 (x.2 : Int)]) (heap_alloc_new WS _)
        have HBZ := Lib.hid hbZ
        have HRowY := Lib.hid HOY.out.lt
        clear hbZ HOY
        go_wp2_with (at_builtin; refine wpList_append_lies _ rfl (.tmp 180) (.tmp 182) 63 rfl wc.heap.size 77 i2 _ 2 24 Tryz.underlying63 hi hz0 hz1 hz2 rfl (by decide) _ k L1 rfl HOwnZ.out ⟨WS.heap.size, 0, none⟩ 1 1 [.string s2, .int .i64 (x.2 : Int)] rfl rfl HNew.out (by simp [Value.oneCell']) (by decide) (by unfold maxLen; omega) (by omega) HBZ.out.size _ rfl ?_)
        intro g9 cap9 w9 hown9 hgrow9 _ _
        have HO9 : Hid (NamesAt wc.heap.size w9 (.slice (some ⟨g9, 0, none⟩) (k + 1) cap9) ((tz.names.take (k + 1)).map (moved b0 p q))) := move_next HX.out HL1.out HM2.out HT2.out hown9
        have HB9 : Hid (Below wc.heap.size wc w9) := HBZ.out.grown hgrow9 HBZ.out.size (fun j hj => (HRowY.out j hj).1)
        clear hown9 hgrow9 HOwnZ HNew HBZ
        go_wp2
        go_roundw
        case rel => exact ⟨k + 1, by omega, by go_num, HO9, HB9⟩
        case measure => simp [intOf]; omega
      · subst h2
        have HM2 := Lib.hid h3
        have HT2 := HSt
        have HBY := HBX
        have HOY := HOX
        clear h3 HBX HOX HXb
        obtain ⟨WZ, hWZ⟩ : ∃ W, Wx.alloc (.cells #[.string s, .int .i64 (x.2 : Int)] 77) = W := ⟨_, rfl⟩
        have hbZ : Below wc.heap.size wc WZ := by rw [← hWZ]; exact below_al HBY.out _
        have HOwnZ : Hid (WZ.ownsRow wc.heap.size 77 2 u19 k L1) := by
          have h5 := HOY.out.alloc (.cells #[.string s, .int .i64 (x.2 : Int)] 77)
          rw [hWZ] at h5
          exact h5
        have HNew : Hid (∀ j u, [Value.string s, .int .i64 (x.2 : Int)][j]? = some u → WZ.cell? ((⟨Wx.heap.size, 0, none⟩ : Addr).add j) = some u) := by
          rw [← hWZ]
          exact World.news_of_block (cs := #[.string s, .int .i64 (x.2 : Int)]) (heap_alloc_new Wx _)
        have HBZ := Lib.hid hbZ
        have HRowY := Lib.hid HOY.out.lt
        clear hbZ HOY
        go_wp2_with (at_builtin; refine wpList_append_lies _ rfl (.tmp 180) (.tmp 182) 63 rfl wc.heap.size 77 i2 _ 2 24 Tryz.underlying63 hi hz0 hz1 hz2 rfl (by decide) _ k L1 rfl HOwnZ.out ⟨Wx.heap.size, 0, none⟩ 1 1 [.string s, .int .i64 (x.2 : Int)] rfl rfl HNew.out (by simp [Value.oneCell']) (by decide) (by unfold maxLen; omega) (by omega) HBZ.out.size _ rfl ?_)
        intro g9 cap9 w9 hown9 hgrow9 _ _
        have HO9 : Hid (NamesAt wc.heap.size w9 (.slice (some ⟨g9, 0, none⟩) (k + 1) cap9) ((tz.names.take (k + 1)).map (moved false p q))) := move_next HX.out HL1.out HM2.out HT2.out hown9
        have HB9 : Hid (Below wc.heap.size wc w9) := HBZ.out.grown hgrow9 HBZ.out.size (fun j hj => (HRowY.out j hj).1)
        clear hown9 hgrow9 HOwnZ HNew HBZ
        go_wp2
        go_roundw
        case rel => exact ⟨k + 1, by omega, by go_num, HO9, HB9⟩
        case measure => simp [intOf]; omega
      · subst h2
        have HM2 := Lib.hid h4
        have HT2 := HSt
        have HBY := HBX
        have HOY := HOX
        clear h4 HBX HOX HXb
        obtain ⟨WZ, hWZ⟩ : ∃ W, Wx.alloc (.cells #[.string s, .int .i64 (x.2 : Int)] 77) = W := ⟨_, rfl⟩
        have hbZ : Below wc.heap.size wc WZ := by rw [← hWZ]; exact below_al HBY.out _
        have HOwnZ : Hid (WZ.ownsRow wc.heap.size 77 2 u19 k L1) := by
          have h5 := HOY.out.alloc (.cells #[.string s, .int .i64 (x.2 : Int)] 77)
          rw [hWZ] at h5
          exact h5
        have HNew : Hid (∀ j u, [Value.string s, .int .i64 (x.2 : Int)][j]? = some u → WZ.cell? ((⟨Wx.heap.size, 0, none⟩ : Addr).add j) = some u) := by
          rw [← hWZ]
          exact World.news_of_block (cs := #[.string s, .int .i64 (x.2 : Int)]) (heap_alloc_new Wx _)
        have HBZ := Lib.hid hbZ
        have HRowY := Lib.hid HOY.out.lt
        clear hbZ HOY
        go_wp2_with (at_builtin; refine wpList_append_lies _ rfl (.tmp 180) (.tmp 182) 63 rfl wc.heap.size 77 i2 _ 2 24 Tryz.underlying63 hi hz0 hz1 hz2 rfl (by decide) _ k L1 rfl HOwnZ.out ⟨Wx.heap.size, 0, none⟩ 1 1 [.string s, .int .i64 (x.2 : Int)] rfl rfl HNew.out (by simp [Value.oneCell']) (by decide) (by unfold maxLen; omega) (by omega) HBZ.out.size _ rfl ?_)
        intro g9 cap9 w9 hown9 hgrow9 _ _
        have HO9 : Hid (NamesAt wc.heap.size w9 (.slice (some ⟨g9, 0, none⟩) (k + 1) cap9) ((tz.names.take (k + 1)).map (moved true p q))) := move_next HX.out HL1.out HM2.out HT2.out hown9
        have HB9 : Hid (Below wc.heap.size wc w9) := HBZ.out.grown hgrow9 HBZ.out.size (fun j hj => (HRowY.out j hj).1)
        clear hown9 hgrow9 HOwnZ HNew HBZ
        go_wp2
        go_roundw
        case rel => exact ⟨k + 1, by omega, by go_num, HO9, HB9⟩
        case measure => simp [intOf]; omega
      · subst h2
        have HM2 := Lib.hid h5
        have HT2 := HSt
        have HBY := HBX
        have HOY := HOX
        clear h5 HBX HOX HXb
        obtain ⟨WZ, hWZ⟩ : ∃ W, Wx.alloc (.cells #[.string s, .int .i64 (x.2 : Int)] 77) = W := ⟨_, rfl⟩
        have hbZ : Below wc.heap.size wc WZ := by rw [← hWZ]; exact below_al HBY.out _
        have HOwnZ : Hid (WZ.ownsRow wc.heap.size 77 2 u19 k L1) := by
          have h5 := HOY.out.alloc (.cells #[.string s, .int .i64 (x.2 : Int)] 77)
          rw [hWZ] at h5
          exact h5
        have HNew : Hid (∀ j u, [Value.string s, .int .i64 (x.2 : Int)][j]? = some u → WZ.cell? ((⟨Wx.heap.size, 0, none⟩ : Addr).add j) = some u) := by
          rw [← hWZ]
          exact World.news_of_block (cs := #[.string s, .int .i64 (x.2 : Int)]) (heap_alloc_new Wx _)
        have HBZ := Lib.hid hbZ
        have HRowY := Lib.hid HOY.out.lt
        clear hbZ HOY
        go_wp2_with (at_builtin; refine wpList_append_lies _ rfl (.tmp 180) (.tmp 182) 63 rfl wc.heap.size 77 i2 _ 2 24 Tryz.underlying63 hi hz0 hz1 hz2 rfl (by decide) _ k L1 rfl HOwnZ.out ⟨Wx.heap.size, 0, none⟩ 1 1 [.string s, .int .i64 (x.2 : Int)] rfl rfl HNew.out (by simp [Value.oneCell']) (by decide) (by unfold maxLen; omega) (by omega) HBZ.out.size _ rfl ?_)
        intro g9 cap9 w9 hown9 hgrow9 _ _
        have HO9 : Hid (NamesAt wc.heap.size w9 (.slice (some ⟨g9, 0, none⟩) (k + 1) cap9) ((tz.names.take (k + 1)).map (moved true p q))) := move_next HX.out HL1.out HM2.out HT2.out hown9
        have HB9 : Hid (Below wc.heap.size wc w9) := HBZ.out.grown hgrow9 HBZ.out.size (fun j hj => (HRowY.out j hj).1)
        clear hown9 hgrow9 HOwnZ HNew HBZ
        go_wp2
        go_roundw
        case rel => exact ⟨k + 1, by omega, by go_num, HO9, HB9⟩
        case measure => simp [intOf]; omega
      · subst h2
        obtain ⟨s2, hs2⟩ : ∃ s2, dst ++ s.extract path.size s.size = s2 := ⟨_, rfl⟩
        obtain ⟨WS, hWS⟩ : ∃ W, Wx.setCell ⟨wr.heap.size, 0, none⟩ (.string s2) = W := ⟨_, rfl⟩
        have hsb : WS.heap[wr.heap.size]? = some (.cells #[.string s2, .int .i64 (x.2 : Int)] 77 (0, 0)) := by rw [← hWS, heap_setCell_at HXb.out]; rfl
        have hbS : Below wc.heap.size wc WS := by rw [← hWS]; exact HBX.out.setCell hwrz _
        have hOS : WS.ownsRow wc.heap.size 77 2 u19 k L1 := row_keep HOX.out (fun j o hj ho => by
          rw [← hWS, heap_setCell_ne _ (by have := (HO1.out.lt j hj).2; omega)]; exact ho)
        have c0 : WS.cell? ⟨wr.heap.size, 0, none⟩ = some (.string s2) := cell_of_heap hsb rfl
        have c1 : WS.cell? ⟨wr.heap.size, 1, none⟩ = some (.int .i64 (x.2 : Int)) := cell_of_heap hsb rfl
        have HBY := Lib.hid hbS
        have HOY := Lib.hid hOS
        have HT2 : Hid (s2 = ofL (joinL (q ++ x.1.drop p.length))) := by show _ = _; rw [← hs2]; exact h6
        have HM2 := Lib.hid h5
        clear hsb hbS hOS h6 h5 HBX HOX HXb
        have hps : path.size ≤ s.size := Nat.le_of_lt h3
        obtain ⟨WZ, hWZ⟩ : ∃ W, WS.alloc (.cells #[.string s2, .int .i64 (x.2 : Int)] 77) = W := ⟨_, rfl⟩
        have hbZ : Below wc.heap.size wc WZ := by rw [← hWZ]; exact below_al HBY.out _
        have HOwnZ : Hid (WZ.ownsRow wc.heap.size 77 2 u19 k L1) := by
          have h5 := HOY.out.alloc (.cells #[.string s2, .int .i64 (x.2 : Int)] 77)
          rw [hWZ] at h5
          exact h5
        have HNew : Hid (∀ j u, [Value.string s2, .int .i64 (x.2 : Int)][j]? = some u → WZ.cell? ((⟨WS.heap.size, 0, none⟩ : Addr).add j) = some u) := by
          rw [← hWZ]
          exact World.news_of_block (cs := #[.string s2, .int .i64 (x.2 : Int)]) (heap_alloc_new WS _)
        have HBZ := Lib.hid hbZ
        have HRowY := Lib.hid HOY.out.lt
        clear hbZ HOY
        go_wp2_with (at_builtin; refine wpList_append_lies _ rfl (.tmp 180) (.tmp 182) 63 rfl wc.heap.size 77 i2 _ 2 24 Tryz.underlying63 hi hz0 hz1 hz2 rfl (by decide) _ k L1 rfl HOwnZ.out ⟨WS.heap.size, 0, none⟩ 1 1 [.string s2, .int .i64 (x.2 : Int)] rfl rfl HNew.out (by simp [Value.oneCell']) (by decide) (by unfold maxLen; omega) (by omega) HBZ.out.size _ rfl ?_)
        intro g9 cap9 w9 hown9 hgrow9 _ _
        have HO9 : Hid (NamesAt wc.heap.size w9 (.slice (some ⟨g9, 0, none⟩) (k + 1) cap9) ((tz.names.take (k + 1)).map (moved true p q))) := move_next HX.out HL1.out HM2.out HT2.out hown9
        have HB9 : Hid (Below wc.heap.size wc w9) := HBZ.out.grown hgrow9 HBZ.out.size (fun j hj => (HRowY.out j hj).1)
        clear hown9 hgrow9 HOwnZ HNew HBZ
        go_wp2
        go_roundw
        case rel => exact ⟨k + 1, by omega, by go_num, HO9, HB9⟩
        case measure => simp [intOf]; omega
    · have HFin : Hid ((tz.names.take k).map (moved b0 p q) = tz.names.map (moved b0 p q)) := by show _ = _; rw [List.take_of_length_le (by have := HN.out; omega)]
      have hO := HO.out
      rw [HFin.out] at hO
      obtain ⟨m9, hm9⟩ : ∃ m9, (tz.names.map (moved b0 p q)).length = m9 := ⟨_, rfl⟩
      obtain ⟨ad9, cap9, e9, _, _⟩ := row_shape hO
      rw [hm9] at e9
      subst e9
      clear hm9
      have hset := HRz.out.setN HB.out hO
      have HSet := Lib.hid hset
      obtain ⟨adN, capN, hvN, _, _⟩ := row_shape (HRz.out.below HB.out).names
      rw [hvN, HN.out] at r1
      obtain ⟨_, f1, _⟩ := (HRz.out.below HB.out).free
      clear hO hset HO hvN
      go_wp2
      go_ret
      unfold RefOp
      rw [HPz.out]
      exact ⟨rfl, _, _, HSet.out.1, HTz.out.next HSet.out.2⟩
end
end Go.Proofs.YtcgpmnlondnbhaaGreatDoor

