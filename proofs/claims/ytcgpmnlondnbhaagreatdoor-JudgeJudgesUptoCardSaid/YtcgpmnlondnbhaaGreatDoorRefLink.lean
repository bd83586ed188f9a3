/-
  The reference's walks: link.
-/
import Derived.Test.YtcgpmnlondnbhaaGreatDoorRefMake
namespace Go.Proofs.YtcgpmnlondnbhaaGreatDoor
open Go Go.RowKit Txt Sp

theorem at_id {t : Sp.Tree} {path : ByteArray} {i : Nat} (h : t.at path = (i, 0)) : t.idOf (full path) = some i := by
  have := (at_ok t (path := path) (by rw [h])).2.2
  rw [h] at this
  exact this

section
set_option maxHeartbeats 4000000
variable {base : Nat} {w : World} {D : Nat → Prop} {r : Nat} {t : Sp.Tree} {vT vN : Value}
set_option maxRecDepth 20000 in
theorem rlink_any (h : RefAt base w D r t vT vN) (hok : t.Ok) (hf : Few t) (path dst : ByteArray) (hs : path.size ≤ 4000000000) (hs2 : dst.size ≤ 4000000000) :
    Calls Tryz.prog 36 #[ptr r, .string path, .string dst] w (RefOp base w D r (t.link path dst)) := by
  obtain ⟨gT, cT, rfl⟩ := h.shape hok
  have HR := Lib.hid h
  have HOK := Lib.hid hok
  have HF := Lib.hid hf
  clear h hok hf
  unfold ptr
  obtain ⟨i, c, ha⟩ : ∃ i c, t.at path = (i, c) := ⟨_, _, rfl⟩
  have HA := Lib.hid ha
  go_enter Tryz.func36, Tryz.ntmps36
  go_wp2_with fail
  refine (rat_any HR.out HOK.out HF.out path hs).mono ?_
  rw [HA.out]
  rintro e w1 ⟨rfl, hb⟩
  have HB := Lib.hid hb
  clear hb
  by_cases hc : c = 0
  rotate_left
  · have HP : Hid (t.link path dst = (t, c)) := by show t.link path dst = _; unfold Sp.Tree.link; rw [ha, if_neg hc]
    have q0 : (c == 0) = false := beq_eq_false_iff_ne.2 hc
    have q1 : (c != 0) = true := by simp [bne, q0]
    clear ha hc
    go_wp2
    go_ret
    exact RefOp.same HR.out HB.out HP.out
  subst hc
  have HI := Lib.hid (at_id ha)
  have HRr := Lib.hid (HR.out.below HB.out)
  obtain ⟨m, hm, _, _, c1, _, hth⟩ := HRr.out.thing HOK.out HF.out HI.out
  obtain ⟨r0, _, _⟩ := HRr.out.cells
  obtain ⟨nT, hnT⟩ : ∃ nT, t.things.length = nT := ⟨_, rfl⟩
  rw [hnT] at hm r0
  have HTh := Lib.hid hth
  have hm0 : (0 : Int) ≤ (m : Int) := by omega
  have hm1 : (m : Int) < (nT : Int) := by omega
  clear hth hnT
  cases hd : t.isDir i with
  | true =>
    have HP : Hid (t.link path dst = (t, 102)) := by show t.link path dst = _; unfold Sp.Tree.link; rw [ha]; simp [hd]
    rw [hd] at c1
    clear ha hd
    go_wp2
    go_quiet ((go_at_call 43; exact Calls.quiet_of_same (HTh.out _)))
    go_wp2
    go_ret
    exact RefOp.same HR.out (below_drewN HB.out _) HP.out
  | false =>
  rw [hd] at c1
  have HD := Lib.hid hd
  clear hd
  obtain ⟨c2, hc2⟩ : ∃ c2, t.dirC dst = c2 := ⟨_, rfl⟩
  have HC2 := Lib.hid hc2
  go_wp2
  go_quiet ((go_at_call 43; exact Calls.quiet_of_same (HTh.out _)))
  go_wp2_with fail
  refine (rdir_any (HRr.out.drewN _) HOK.out HF.out dst hs2).mono ?_
  rintro e w2 ⟨rfl, hb⟩
  rw [HC2.out]
  have HB2 := Lib.hid (below_next (below_drewN HB.out _) hb)
  clear hb
  by_cases hc0 : c2 = 0
  rotate_left
  · have HP : Hid (t.link path dst = (t, c2)) := by show t.link path dst = _; unfold Sp.Tree.link; rw [ha, if_pos rfl, HD.out, hc2, if_neg (by simp), if_neg hc0]
    have q0 : (c2 == 0) = false := beq_eq_false_iff_ne.2 hc0
    have q1 : (c2 != 0) = true := by simp [bne, q0]
    clear ha hc2 hc0
    go_wp2
    go_ret
    exact RefOp.same HR.out HB2.out HP.out
  subst hc0
  obtain ⟨l, x, ip, hsp, hw, hdd, hfull, htxt, hgood⟩ := dir_zero hc2
  have HT := Lib.hid htxt
  have HG := Lib.hid hgood
  clear htxt hgood hsp hw hdd hfull
  cases hfd : t.find (full dst) with
  | some j =>
    have HP : Hid (t.link path dst = (t, 101)) := by show t.link path dst = _; unfold Sp.Tree.link; rw [ha, if_pos rfl, HD.out, hc2, hfd]; rfl
    obtain ⟨k, hk, hcall⟩ := rname_some (HR.out.below HB2.out) HOK.out HF.out.names hfd HT.out
    have HCall := Lib.hid hcall
    clear ha hc2 hfd hk hcall
    go_wp2_with fail
    refine HCall.out.mono ?_
    rintro e w3 ⟨rfl, rfl⟩
    go_wp2
    go_ret
    exact RefOp.same HR.out HB2.out HP.out
  | none =>
  have HFd := Lib.hid hfd
  obtain ⟨lk, hlk⟩ : ∃ lk, t.links i = lk := ⟨_, rfl⟩
  have HLk := Lib.hid hlk
  go_wp2_with fail
  refine (rname_none (HR.out.below HB2.out) HOK.out HF.out.names HG.out HFd.out HT.out).mono ?_
  rintro e w3 ⟨rfl, rfl⟩
  clear hfd
  go_wp2_with fail
  refine (rlinks_any (HR.out.below HB2.out) i HF.out.names).mono ?_
  rw [HLk.out]
  rintro e w3 ⟨rfl, rfl⟩
  by_cases h200 : 200 ≤ lk
  · have HP : Hid (t.link path dst = (t, 105)) := by show t.link path dst = _; unfold Sp.Tree.link; rw [ha, if_pos rfl, HD.out, hc2, HFd.out, hlk]; simp [h200]
    have q2 : (200 : Int) ≤ (lk : Int) := by omega
    clear ha hc2 hlk
    go_wp2
    go_ret
    exact RefOp.same HR.out HB2.out HP.out
  · have HP : Hid (t.link path dst = ({ t with names := t.names ++ [(full dst, i)] }, 0)) := by show t.link path dst = _; unfold Sp.Tree.link; rw [ha, if_pos rfl, HD.out, hc2, HFd.out, hlk]; simp [h200]
    have q2 : ¬ (200 : Int) ≤ (lk : Int) := by omega
    clear ha hc2 hlk
    go_wp2_with fail
    refine (rstand_any (HR.out.below HB2.out) HF.out.names HT.out i).mono ?_
    rintro e w4 ⟨rfl, vT5, vN5, hA, hTu⟩
    have HA2 := Lib.hid hA
    have HTu := Lib.hid (turn_next HB2.out hTu)
    clear hA hTu
    go_wp2
    go_ret
    unfold RefOp
    rw [HP.out]
    exact ⟨rfl, _, _, HA2.out, HTu.out⟩
end
end Go.Proofs.YtcgpmnlondnbhaaGreatDoor
