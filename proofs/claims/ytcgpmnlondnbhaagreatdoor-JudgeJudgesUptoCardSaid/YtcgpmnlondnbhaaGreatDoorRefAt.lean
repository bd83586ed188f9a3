/-
  The reference's walks: at, dir, file.
-/
import Derived.Test.YtcgpmnlondnbhaaGreatDoorRefWalk
namespace Go.Proofs.YtcgpmnlondnbhaaGreatDoor
open Go Go.RowKit Txt Sp

def RAtPost (a : Nat × Int) (w : World) (e : Ending) (w' : World) : Prop := e = .returned (.tuple #[.int .i64 (a.1 : Int), .int .i64 a.2]) ∧ Below w.heap.size w w'
def RDirPost (t : Sp.Tree) (p : ByteArray) (w : World) (e : Ending) (w' : World) : Prop := e = .returned (.int .i64 (t.dirC p)) ∧ Below w.heap.size w w'
theorem RDirPost.mk {t : Sp.Tree} {p : ByteArray} {c : Int} (h : t.dirC p = c) {w w' : World} (hb : Below w.heap.size w w') : RDirPost t p w (.returned (.int .i64 c)) w' := by
  unfold RDirPost
  rw [h]
  exact ⟨rfl, hb⟩
/-- A file's place among things. -/
def RFilePost (t : Sp.Tree) (p : ByteArray) (w : World) (e : Ending) (w' : World) : Prop := ∃ m : Nat, e = .returned (.tuple #[.int .i64 (m : Int), .int .i64 (t.file p).2]) ∧ Below w.heap.size w w' ∧ ((t.file p).2 = 0 → t.things[m]? = some ((t.file p).1, false, t.dataOf (t.file p).1))

section
set_option maxHeartbeats 1000000
variable {base : Nat} {w : World} {D : Nat → Prop} {r : Nat} {t : Sp.Tree} {vT vN : Value}
theorem rat_any (h : RefAt base w D r t vT vN) (hok : t.Ok) (hf : Few t) (p : ByteArray) (hs : p.size ≤ 4000000000) :
    Calls Tryz.prog 62 #[ptr r, .string p] w (RAtPost (t.at p) w) := by
  have HR := Lib.hid h
  have HOK := Lib.hid hok
  have HF := Lib.hid hf
  clear h hok hf
  unfold ptr
  rcases splitN_or p with ⟨l, h, h8⟩ | ⟨c, h, hc⟩
  · have H := Lib.hid h
    have HG : Hid (Sp.Good l) := (splitN_short h).2
    have HA : Hid (t.at p = t.walk [] l 0) := by show t.at p = _; unfold Sp.Tree.at; rw [h]; rfl
    clear h
    go_enter Tryz.func62, Tryz.ntmps62
    go_wp2_with fail
    refine (refSplit_ok H _ hs).mono ?_
    rintro e w1 ⟨v, rfl, hv, hb⟩
    have HV := Lib.hid hv
    have HB := Lib.hid hb
    clear hv hb
    go_wp2_with fail
    refine (rwalk_any (HR.out.below HB.out) HOK.out HF.out v l HV.out HG.out h8).mono ?_
    rintro e w2 ⟨rfl, hb2⟩
    have HB2 := Lib.hid (below_next HB.out hb2)
    clear hb2
    go_wp2
    go_ret2
    unfold RAtPost
    rw [HA.out]
    exact ⟨rfl, HB2.out⟩
  · have H := Lib.hid h
    have HA : Hid (t.at p = (0, c)) := by show t.at p = _; unfold Sp.Tree.at; rw [h]; simp [beq_eq_false_iff_ne.1 hc]
    clear h
    go_enter Tryz.func62, Tryz.ntmps62
    go_wp2_with fail
    refine (refSplit_err H _ hs).mono ?_
    rintro e w1 ⟨v, rfl, hv, hb⟩
    go_wp2
    go_ret2
    unfold RAtPost
    rw [HA.out]
    exact ⟨rfl, hb⟩

theorem rdir_any (h : RefAt base w D r t vT vN) (hok : t.Ok) (hf : Few t) (p : ByteArray) (hs : p.size ≤ 4000000000) :
    Calls Tryz.prog 59 #[ptr r, .string p] w (RDirPost t p w) := by
  obtain ⟨gT, cT, rfl⟩ := h.shape hok
  have HR := Lib.hid h
  have HOK := Lib.hid hok
  have HF := Lib.hid hf
  clear h hok hf
  unfold ptr
  rcases dirTo t p with ⟨c, h1, h2, h3⟩ | ⟨l, x, c, h1, h2, h3, h4⟩ | ⟨l, x, i, h1, h2, h3, h4⟩ | ⟨l, x, i, h1, h2, h3, h4, h5, h6⟩
  · have H := Lib.hid h1
    have HE := Lib.hid h3
    clear h1 h3
    go_enter Tryz.func59, Tryz.ntmps59
    go_wp2_with fail
    refine (refLast_triple H _ hs).mono ?_
    rintro e w1 ⟨v, rfl, hv, hb⟩
    go_wp2
    go_ret
    exact RDirPost.mk HE.out hb
  all_goals
    have hsp : ∃ y, splitN p = (l ++ [y], 0) := by
      rcases lastN_cases p with ⟨c', e1, e2⟩ | ⟨l', x', e1, e2⟩
      · rw [h1] at e1
        cases e1
        cases e2
      · rw [h1] at e1
        cases e1
        exact ⟨_, e2⟩
    have HG : Hid (Sp.Good l) := by
      obtain ⟨y, hy⟩ := hsp
      exact fun s hs => (splitN_short hy).2 s (List.mem_append_left _ hs)
    have h8 : l.length ≤ 8 := by
      obtain ⟨y, hy⟩ := hsp
      have := (splitN_short hy).1
      rw [List.length_append] at this
      omega
    have H := Lib.hid h1
    have HW := Lib.hid h2
    have HE := Lib.hid h4
    clear h1 h2 h4 hsp
  · go_enter Tryz.func59, Tryz.ntmps59
    go_wp2_with fail
    refine (refLast_triple H _ hs).mono ?_
    rintro e w1 ⟨v, rfl, hv, hb⟩
    have HV := Lib.hid hv
    have HB := Lib.hid hb
    clear hv hb
    go_wp2_with fail
    refine (rwalk_any (HR.out.below HB.out) HOK.out HF.out v l HV.out HG.out h8).mono ?_
    rintro e w2 ⟨rfl, hb2⟩
    rw [HW.out]
    have HB2 := Lib.hid (below_next HB.out hb2)
    clear hb2
    go_wp2
    go_ret
    exact RDirPost.mk HE.out HB2.out
  all_goals
    have HI : Hid (t.idOf l = some i) := by
      have := walk_ok l HW.out idOf_nil
      rwa [List.nil_append] at this
  · go_enter Tryz.func59, Tryz.ntmps59
    go_wp2_with fail
    refine (refLast_triple H _ hs).mono ?_
    rintro e w1 ⟨v, rfl, hv, hb⟩
    have HV := Lib.hid hv
    have HB := Lib.hid hb
    clear hv hb
    go_wp2_with fail
    refine (rwalk_any (HR.out.below HB.out) HOK.out HF.out v l HV.out HG.out h8).mono ?_
    rintro e w2 ⟨rfl, hb2⟩
    rw [HW.out]
    have HB2 := Lib.hid (below_next HB.out hb2)
    have HRr := Lib.hid (HR.out.below HB2.out)
    obtain ⟨m, hm, _, _, c1, _, hth⟩ := HRr.out.thing HOK.out HF.out HI.out
    obtain ⟨r0, r1, _⟩ := HRr.out.cells
    obtain ⟨nT, hnT⟩ : ∃ nT, t.things.length = nT := ⟨_, rfl⟩
    rw [hnT] at hm r0
    rw [h3] at c1
    have HTh := Lib.hid hth
    have hm0 : (0 : Int) ≤ (m : Int) := by omega
    have hm1 : (m : Int) < (nT : Int) := by omega
    clear hth hb2 hnT
    go_wp2
    go_quiet ((go_at_call 43; exact Calls.quiet_of_same (HTh.out _)))
    go_wp2
    go_ret
    exact RDirPost.mk HE.out (below_drewN HB2.out _)
  · go_enter Tryz.func59, Tryz.ntmps59
    go_wp2_with fail
    refine (refLast_triple H _ hs).mono ?_
    rintro e w1 ⟨v, rfl, hv, hb⟩
    have HV := Lib.hid hv
    have HB := Lib.hid hb
    clear hv hb h5 h6
    go_wp2_with fail
    refine (rwalk_any (HR.out.below HB.out) HOK.out HF.out v l HV.out HG.out h8).mono ?_
    rintro e w2 ⟨rfl, hb2⟩
    rw [HW.out]
    have HB2 := Lib.hid (below_next HB.out hb2)
    have HRr := Lib.hid (HR.out.below HB2.out)
    obtain ⟨m, hm, _, _, c1, _, hth⟩ := HRr.out.thing HOK.out HF.out HI.out
    obtain ⟨r0, r1, _⟩ := HRr.out.cells
    obtain ⟨nT, hnT⟩ : ∃ nT, t.things.length = nT := ⟨_, rfl⟩
    rw [hnT] at hm r0
    rw [h3] at c1
    have HTh := Lib.hid hth
    have hm0 : (0 : Int) ≤ (m : Int) := by omega
    have hm1 : (m : Int) < (nT : Int) := by omega
    clear hth hb2 hnT
    go_wp2
    go_quiet ((go_at_call 43; exact Calls.quiet_of_same (HTh.out _)))
    go_wp2
    go_ret
    exact RDirPost.mk HE.out (below_drewN HB2.out _)

theorem rfile_any (h : RefAt base w D r t vT vN) (hok : t.Ok) (hf : Few t) (p : ByteArray) (hs : p.size ≤ 4000000000) :
    Calls Tryz.prog 68 #[ptr r, .string p] w (RFilePost t p w) := by
  obtain ⟨gT, cT, rfl⟩ := h.shape hok
  have HR := Lib.hid h
  have HOK := Lib.hid hok
  have HF := Lib.hid hf
  clear h hok hf
  unfold ptr
  obtain ⟨i, c, ha⟩ : ∃ i c, t.at p = (i, c) := ⟨_, _, rfl⟩
  by_cases hc : c = 0
  · subst hc
    have hI := (at_ok t (by rw [ha])).2.2
    rw [ha] at hI
    have HI := Lib.hid hI
    cases hd : t.isDir i with
    | true =>
      have HP : Hid (t.file p = (0, 102)) := by show t.file p = _; unfold Sp.Tree.file; rw [ha]; simp [hd]
      have HA := Lib.hid ha
      clear ha hI
      go_enter Tryz.func68, Tryz.ntmps68
      go_wp2_with fail
      refine (rat_any HR.out HOK.out HF.out p hs).mono ?_
      rw [HA.out]
      rintro e w1 ⟨rfl, hb⟩
      have HB := Lib.hid hb
      have HRr := Lib.hid (HR.out.below HB.out)
      obtain ⟨m, hm, _, _, c1, _, hth⟩ := HRr.out.thing HOK.out HF.out HI.out
      obtain ⟨r0, r1, _⟩ := HRr.out.cells
      obtain ⟨nT, hnT⟩ : ∃ nT, t.things.length = nT := ⟨_, rfl⟩
      rw [hnT] at hm r0
      rw [hd] at c1
      have HTh := Lib.hid hth
      have hm0 : (0 : Int) ≤ (m : Int) := by omega
      have hm1 : (m : Int) < (nT : Int) := by omega
      clear hth hb hnT hd
      go_wp2
      go_quiet ((go_at_call 43; exact Calls.quiet_of_same (HTh.out _)))
      go_wp2
      go_ret2
      unfold RFilePost
      rw [HP.out]
      exact ⟨0, rfl, below_drewN HB.out _, fun e => by cases e⟩
    | false =>
      have HP : Hid (t.file p = (i, 0)) := by show t.file p = _; unfold Sp.Tree.file; rw [ha]; simp [hd]
      have HA := Lib.hid ha
      have HD := Lib.hid hd
      clear ha hI
      go_enter Tryz.func68, Tryz.ntmps68
      go_wp2_with fail
      refine (rat_any HR.out HOK.out HF.out p hs).mono ?_
      rw [HA.out]
      rintro e w1 ⟨rfl, hb⟩
      have HB := Lib.hid hb
      have HRr := Lib.hid (HR.out.below HB.out)
      obtain ⟨m, hm, hmt, _, c1, _, hth⟩ := HRr.out.thing HOK.out HF.out HI.out
      obtain ⟨r0, r1, _⟩ := HRr.out.cells
      obtain ⟨nT, hnT⟩ : ∃ nT, t.things.length = nT := ⟨_, rfl⟩
      rw [hnT] at hm r0
      rw [hd] at c1 hmt
      have HTh := Lib.hid hth
      have HMt := Lib.hid hmt
      have hm0 : (0 : Int) ≤ (m : Int) := by omega
      have hm1 : (m : Int) < (nT : Int) := by omega
      clear hth hb hnT hd hmt
      go_wp2
      go_quiet ((go_at_call 43; exact Calls.quiet_of_same (HTh.out _)))
      go_wp2_with fail
      refine (HTh.out _).mono ?_
      rintro e w2 ⟨rfl, rfl⟩
      go_wp2
      go_ret2
      unfold RFilePost
      rw [HP.out]
      exact ⟨m, rfl, below_drewN HB.out _, fun _ => HMt.out⟩
  · have HP : Hid (t.file p = (0, c)) := by show t.file p = _; unfold Sp.Tree.file; rw [ha]; simp [hc]
    have HA := Lib.hid ha
    have hc0 : (c == 0) = false := beq_eq_false_iff_ne.2 hc
    have hc1 : (c != 0) = true := by simp [bne, hc0]
    have HC := Lib.hid hc
    clear ha hc
    go_enter Tryz.func68, Tryz.ntmps68
    go_wp2_with fail
    refine (rat_any HR.out HOK.out HF.out p hs).mono ?_
    rw [HA.out]
    rintro e w1 ⟨rfl, hb⟩
    have HB := Lib.hid hb
    clear hb
    go_wp2
    go_ret2
    unfold RFilePost
    rw [HP.out]
    exact ⟨0, rfl, HB.out, fun e => (HC.out e).elim⟩
end
end Go.Proofs.YtcgpmnlondnbhaaGreatDoor
