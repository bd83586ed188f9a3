/-
  The reference's walks: remove.
-/
import Derived.Test.YtcgpmnlondnbhaaGreatDoorRefForget
import Derived.Test.YtcgpmnlondnbhaaGreatDoorRefLink
namespace Go.Proofs.YtcgpmnlondnbhaaGreatDoor
open Go Go.RowKit Txt Sp

theorem full_ne {t : Sp.Tree} {path : ByteArray} (h : t.dirC path = 0) : full path ≠ [] := by
  obtain ⟨l, x, i, _, _, _, hf, _, _⟩ := dir_zero h
  rw [hf]
  simp
theorem own_shape {n : Nat} {w : World} {v : Value} {l : List ByteArray} (h : OwnTexts n w v l) : ∃ ad cap, v = .slice ad l.length cap := by
  obtain ⟨e, h⟩ := h
  obtain ⟨ad, cap, e1, _, _⟩ := row_shape h
  exact ⟨ad, cap, e1⟩

section
set_option maxHeartbeats 4000000
variable {base : Nat} {w : World} {D : Nat → Prop} {r : Nat} {t : Sp.Tree} {vT vN : Value}
set_option maxRecDepth 20000 in
theorem rremove_any (h : RefAt base w D r t vT vN) (hok : t.Ok) (hf : Few t) (path : ByteArray) (dir : Bool) (hs : path.size ≤ 4000000000) :
    Calls Tryz.prog 37 #[ptr r, .string path, .bool dir] w (RefOp base w D r (t.remove path dir)) := by
  obtain ⟨gT, cT, rfl⟩ := h.shape hok
  have HR := Lib.hid h
  have HOK := Lib.hid hok
  have HF := Lib.hid hf
  clear h hok hf
  unfold ptr
  obtain ⟨c, hc⟩ : ∃ c, t.dirC path = c := ⟨_, rfl⟩
  have HC := Lib.hid hc
  go_enter Tryz.func37, Tryz.ntmps37
  go_wp2_with fail
  refine (rdir_any HR.out HOK.out HF.out path hs).mono ?_
  rintro e w1 ⟨rfl, hb⟩
  rw [HC.out]
  have HB := Lib.hid hb
  clear hb
  by_cases hc0 : c = 0
  rotate_left
  · have HP : Hid (t.remove path dir = (t, c)) := by show t.remove path dir = _; unfold Sp.Tree.remove; rw [hc, if_neg hc0]
    have q0 : (c == 0) = false := beq_eq_false_iff_ne.2 hc0
    have q1 : (c != 0) = true := by simp [bne, q0]
    clear hc hc0
    go_wp2
    go_ret
    exact RefOp.same HR.out HB.out HP.out
  subst hc0
  obtain ⟨l, x, ip, hsp, hw, hdd, hfull, htxt, hgood⟩ := dir_zero hc
  have HT := Lib.hid htxt
  have HG := Lib.hid hgood
  have HNe := Lib.hid (full_ne hc)
  clear htxt hgood hsp hw hdd hfull
  cases hfd : t.find (full path) with
  | none =>
    have HP : Hid (t.remove path dir = (t, 100)) := by show t.remove path dir = _; unfold Sp.Tree.remove; rw [hc, hfd]; rfl
    have HFd := Lib.hid hfd
    clear hc hfd
    go_wp2_with fail
    refine (rname_none (HR.out.below HB.out) HOK.out HF.out.names HG.out HFd.out HT.out).mono ?_
    rintro e w2 ⟨rfl, rfl⟩
    go_wp2
    go_ret
    exact RefOp.same HR.out HB.out HP.out
  | some i =>
  have HRz := Lib.hid (HR.out.below HB.out)
  obtain ⟨k, hk, hcall⟩ := rname_some HRz.out HOK.out HF.out.names hfd HT.out
  have HCall := Lib.hid hcall
  have HK := Lib.hid hk
  have HI := Lib.hid (find_idOf HOK.out hfd)
  obtain ⟨m, hm, _, _, c1, _, hth⟩ := HRz.out.thing HOK.out HF.out HI.out
  obtain ⟨r0, r1, _⟩ := HRz.out.cells
  have hkl := (List.getElem?_eq_some_iff.1 hk).1
  obtain ⟨gN, cN, rfl, _, _⟩ := HRz.out.names.form (by omega)
  obtain ⟨_, n1⟩ := HRz.out.names.at' hk
  obtain ⟨nT, hnT⟩ : ∃ nT, t.things.length = nT := ⟨_, rfl⟩
  obtain ⟨nN, hnN⟩ : ∃ nN, t.names.length = nN := ⟨_, rfl⟩
  rw [hnT] at hm r0
  rw [hnN] at r1 hkl
  have HTh := Lib.hid hth
  have hm0 : (0 : Int) ≤ (m : Int) := by omega
  have hm1 : (m : Int) < (nT : Int) := by omega
  have hk0 : (0 : Int) ≤ (k : Int) := by omega
  have hk1 : (k : Int) < (nN : Int) := by omega
  have hk2 : ¬ (k : Int) < 0 := by omega
  clear hth hnT hnN hk hcall
  obtain ⟨kl, hkl2⟩ : ∃ kl, t.kids (full path) = kl := ⟨_, rfl⟩
  obtain ⟨b, hb⟩ : ∃ b, t.isDir i = b := ⟨_, rfl⟩
  rw [hb] at c1
  have HKl := Lib.hid hkl2
  have HKn : Hid (kl = [] ↔ t.kidsL (full path) = []) := by
    show kl = [] ↔ _
    rw [← hkl2, ← List.length_eq_zero_iff, kids_length, List.length_eq_zero_iff]
  cases b with
  | true =>
    cases dir with
    | false =>
      have HP : Hid (t.remove path false = (t, 102)) := by show t.remove path _ = _; unfold Sp.Tree.remove; rw [hc, hfd]; simp [hb]
      clear hc hfd hb hkl2
      go_wp2_with fail
      refine HCall.out.mono ?_
      rintro e w2 ⟨rfl, rfl⟩
      go_wp2
      go_quiet ((go_at_call 43; exact Calls.quiet_of_same (HTh.out _)))
      go_wp2
      go_ret
      exact RefOp.same HR.out (below_drewN HB.out _) HP.out
    | true =>
      by_cases hkid : kl = []
      · have HP : Hid (t.remove path true = (t.forget (full path), 0)) := by show t.remove path _ = _; unfold Sp.Tree.remove; rw [hc, hfd]; simp [hb, HKn.out.1 hkid]
        clear hc hfd hb hkl2
        go_wp2_with fail
        refine HCall.out.mono ?_
        rintro e w2 ⟨rfl, rfl⟩
        go_wp2
        go_quiet ((go_at_call 43; exact Calls.quiet_of_same (HTh.out _)))
        go_wp2_with fail
        refine (rkids_any (HRz.out.drewN _) HOK.out HF.out HG.out (Or.inr ⟨HT.out, HNe.out⟩) hs).mono ?_
        rw [HKl.out]
        rintro e w3 ⟨v3, rfl, ho3, hb3⟩
        obtain ⟨ad3, cap3, rfl⟩ := own_shape ho3
        have HBz := Lib.hid (below_next (below_drewN HB.out _) hb3)
        have HRz := Lib.hid (HR.out.below HBz.out)
        rw [hkid, List.length_nil]
        clear ho3 hb3 hkid
        go_wp2_with fail
        refine (rforget_any HRz.out HOK.out HF.out HK.out).mono ?_
        rintro e w5 ⟨rfl, vT5, vN5, hA, hTu⟩
        have HA := Lib.hid hA
        have HTu := Lib.hid (turn_next HBz.out hTu)
        clear hA hTu
        go_wp2
        go_ret
        unfold RefOp
        rw [HP.out]
        exact ⟨rfl, _, _, HA.out, HTu.out⟩
      · have HP : Hid (t.remove path true = (t, 104)) := by show t.remove path _ = _; unfold Sp.Tree.remove; rw [hc, hfd]; simp [hb, show ¬ t.kidsL (full path) = [] from fun h => hkid (HKn.out.2 h)]
        clear hc hfd hb hkl2
        go_wp2_with fail
        refine HCall.out.mono ?_
        rintro e w2 ⟨rfl, rfl⟩
        go_wp2
        go_quiet ((go_at_call 43; exact Calls.quiet_of_same (HTh.out _)))
        go_wp2_with fail
        refine (rkids_any (HRz.out.drewN _) HOK.out HF.out HG.out (Or.inr ⟨HT.out, HNe.out⟩) hs).mono ?_
        rw [HKl.out]
        rintro e w3 ⟨v3, rfl, ho3, hb3⟩
        obtain ⟨ad3, cap3, rfl⟩ := own_shape ho3
        have HBz := Lib.hid (below_next (below_drewN HB.out _) hb3)
        obtain ⟨kn, hkn⟩ : ∃ kn, kl.length = kn := ⟨_, rfl⟩
        have hkp : (0 : Int) < (kn : Int) := by have := List.length_pos_iff.2 hkid; omega
        rw [hkn]
        clear ho3 hb3 hkid hkn
        go_wp2
        go_ret
        exact RefOp.same HR.out HBz.out HP.out
  | false =>
    cases dir with
    | true =>
      have HP : Hid (t.remove path true = (t, 103)) := by show t.remove path _ = _; unfold Sp.Tree.remove; rw [hc, hfd]; simp [hb]
      clear hc hfd hb hkl2
      go_wp2_with fail
      refine HCall.out.mono ?_
      rintro e w2 ⟨rfl, rfl⟩
      go_wp2
      go_quiet ((go_at_call 43; exact Calls.quiet_of_same (HTh.out _)))
      go_wp2
      go_ret
      exact RefOp.same HR.out (below_drewN HB.out _) HP.out
    | false =>
      have HP : Hid (t.remove path false = (t.forget (full path), 0)) := by show t.remove path _ = _; unfold Sp.Tree.remove; rw [hc, hfd]; simp [hb]
      clear hc hfd hb hkl2
      go_wp2_with fail
      refine HCall.out.mono ?_
      rintro e w2 ⟨rfl, rfl⟩
      go_wp2
      go_quiet ((go_at_call 43; exact Calls.quiet_of_same (HTh.out _)))
      go_wp2_with fail
      refine (rforget_any (HRz.out.drewN _) HOK.out HF.out HK.out).mono ?_
      rintro e w5 ⟨rfl, vT5, vN5, hA, hTu⟩
      have HA := Lib.hid hA
      have HTu := Lib.hid (turn_next (below_drewN HB.out _) hTu)
      clear hA hTu
      go_wp2
      go_ret
      unfold RefOp
      rw [HP.out]
      exact ⟨rfl, _, _, HA.out, HTu.out⟩
end
end Go.Proofs.YtcgpmnlondnbhaaGreatDoor
