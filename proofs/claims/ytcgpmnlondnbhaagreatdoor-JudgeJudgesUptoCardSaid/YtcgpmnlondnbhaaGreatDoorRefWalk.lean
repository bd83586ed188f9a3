/-
  The reference's walks: walk, at, dir, file.
-/
import Derived.Test.YtcgpmnlondnbhaaGreatDoorRefAsk
import Derived.Test.YtcgpmnlondnbhaaGreatDoorNamesA
import Derived.Test.YtcgpmnlondnbhaaGreatDoorTreeA
namespace Go.Proofs.YtcgpmnlondnbhaaGreatDoor
open Go Go.RowKit Txt Sp

/-- So few names and things that nothing wraps. -/
structure Few (t : Sp.Tree) : Prop where
  names : t.names.length ≤ 1000000
  things : t.things.length ≤ 1000000
  many : t.many ≤ 1000000

theorem drop_at {α : Type} {l : List α} {k : Nat} {s : α} (h : l[k]? = some s) : l.drop k = s :: l.drop (k + 1) := by
  obtain ⟨hk, rfl⟩ := List.getElem?_eq_some_iff.1 h
  exact List.drop_eq_getElem_cons hk
theorem walk_no {t : Sp.Tree} {l : List ByteArray} {k j : Nat} {s : ByteArray} (hs : l[k]? = some s) (hw : t.walk [] l 0 = t.walk (l.take k) (l.drop k) j) (hd : t.isDir j = false) : t.walk [] l 0 = (0, 103) := by
  rw [hw, drop_at hs]
  unfold Sp.Tree.walk
  rw [hd]
  rfl
theorem walk_miss {t : Sp.Tree} {l : List ByteArray} {k j : Nat} {s : ByteArray} (hs : l[k]? = some s) (hw : t.walk [] l 0 = t.walk (l.take k) (l.drop k) j) (hd : t.isDir j = true) (hf : t.find (l.take k ++ [s]) = none) : t.walk [] l 0 = (0, 100) := by
  rw [hw, drop_at hs]
  unfold Sp.Tree.walk
  rw [if_pos hd, hf]
theorem walk_step {t : Sp.Tree} {l : List ByteArray} {k j i : Nat} {s : ByteArray} (hs : l[k]? = some s) (hw : t.walk [] l 0 = t.walk (l.take k) (l.drop k) j) (hd : t.isDir j = true) (hf : t.find (l.take k ++ [s]) = some i) : t.walk [] l 0 = t.walk (l.take (k + 1)) (l.drop (k + 1)) i := by
  rw [hw, drop_at hs, take_more l k s hs]
  conv => lhs; unfold Sp.Tree.walk
  rw [if_pos hd, hf]
theorem good_take {l : List ByteArray} (h : Sp.Good l) {k : Nat} {s : ByteArray} (hs : l[k]? = some s) : Sp.Good (l.take k ++ [s]) := by
  rw [← take_more l k s hs]
  exact fun x hx => h x (List.mem_of_mem_take hx)
theorem path_more {p : List ByteArray} {s t : ByteArray} (h : t = ofL (joinL p)) : t ++ ((⟨#[47]⟩ : ByteArray) ++ s) = ofL (joinL (p ++ [s])) := by
  rw [h, Sp.joinL_snoc]
  refine Txt.ext ?_
  rw [ofL_data]
  simp [ofL_data]

/-- A number that a tree has: its place among things, and its cells. -/
theorem RefAt.thing {base : Nat} {w : World} {D : Nat → Prop} {r : Nat} {t : Sp.Tree} {gT cT : Nat} {vN : Value} (h : RefAt base w D r t (.slice (some ⟨gT, 0, none⟩) t.things.length cT) vN) (hok : t.Ok) (hf : Few t) {p : List ByteArray} {j : Nat} (hj : t.idOf p = some j) :
    ∃ m, m < t.things.length ∧ t.things[m]? = some (j, t.isDir j, t.dataOf j) ∧ w.cell? ⟨gT, m * 3, none⟩ = some (.int .i64 (j : Int)) ∧ w.cell? ⟨gT, m * 3 + 1, none⟩ = some (.bool (t.isDir j)) ∧ w.cell? ⟨gT, m * 3 + 2, none⟩ = some (.string (t.dataOf j)) ∧
      ∀ n, Calls Tryz.prog 43 #[ptr r, .int .i64 (j : Int)] (w.drewN n) fun e w' => e = .returned (.int .i64 (m : Int)) ∧ w' = w.drewN n := by
  obtain ⟨m, h1, h2, h3⟩ := thing_ix hok (there_idOf hok hj)
  obtain ⟨a0, a1, a2⟩ := h.things.at' h2
  exact ⟨m, h1, h2, a0, a1, a2, fun n => (rthing_any (h.drewN n) h2 h3 hf.things).mono fun _ _ ⟨h5, h6⟩ => ⟨h5, h6.symm⟩⟩
theorem RefAt.shape {base : Nat} {w : World} {D : Nat → Prop} {r : Nat} {t : Sp.Tree} {vT vN : Value} (h : RefAt base w D r t vT vN) (hok : t.Ok) : ∃ gT cT, vT = .slice (some ⟨gT, 0, none⟩) t.things.length cT := by
  obtain ⟨d, hd⟩ := hok.root
  obtain ⟨g, cap, e, _, _⟩ := h.things.form (List.length_pos_of_mem hd)
  exact ⟨g, cap, e⟩

def RWalkPost (t : Sp.Tree) (l : List ByteArray) (w : World) (e : Ending) (w' : World) : Prop := e = .returned (.tuple #[.int .i64 ((t.walk [] l 0).1 : Nat), .int .i64 (t.walk [] l 0).2]) ∧ Below w.heap.size w w'
theorem RWalkPost.mk {t : Sp.Tree} {l : List ByteArray} {j : Nat} {c : Int} (h : t.walk [] l 0 = (j, c)) {w w' : World} (hb : Below w.heap.size w w') : RWalkPost t l w (.returned (.tuple #[.int .i64 (j : Int), .int .i64 c])) w' := by
  unfold RWalkPost
  rw [h]
  exact ⟨rfl, hb⟩

section
set_option maxHeartbeats 1000000
variable {base : Nat} {w : World} {D : Nat → Prop} {r : Nat} {t : Sp.Tree} {vT vN : Value}
theorem rwalk_any (h : RefAt base w D r t vT vN) (hok : t.Ok) (hf : Few t) (v : Value) (l : List ByteArray) (hl : Texts w v l) (hg : Sp.Good l) (h8 : l.length ≤ 8) :
    Calls Tryz.prog 81 #[ptr r, v] w (RWalkPost t l w) := by
  obtain ⟨gT, cT, rfl⟩ := h.shape hok
  obtain ⟨ad, n, cap, rfl, HN, hn8, HL⟩ := hl.open8 h8
  have HR := Lib.hid h
  have HOK := Lib.hid hok
  have HF := Lib.hid hf
  have HG := Lib.hid hg
  clear h hok hf hg hl h8
  unfold ptr
  go_enter Tryz.func81, Tryz.ntmps81
  go_wp2
  go_loopw [6, 7, 8] (fun id p i wr => ∃ (k j : Nat) (q : ByteArray), k ≤ n ∧ i = .int .i64 k ∧ id = .int .i64 j ∧ p = .string q ∧ q.size ≤ 14 * k ∧ Hid (q = ofL (joinL (l.take k))) ∧ Hid (t.walk [] l 0 = t.walk (l.take k) (l.drop k) j) ∧ Hid (t.idOf (l.take k) = some j) ∧ Hid (Below w.heap.size w wr)) (fun _ _ i _ => n - (intOf i).toNat)
  case atStart => exact ⟨0, 0, _, Nat.zero_le _, rfl, rfl, rfl, by simp [ByteArray.size], rfl, rfl, rfl, Below.refl _ _⟩
  case round =>
    obtain ⟨k, j, q, hk, rfl, rfl, rfl, hqs, HQ, HW, HI, HB⟩ := hrel
    by_cases hlt : k < n
    · obtain ⟨b, off, s, rfl, hb, hs, hcell⟩ := HL.out k hlt
      have hsc : wr.cell? ⟨b, off + k, none⟩ = some (.string s) := (HB.out.cell (p := ⟨b, off + k, none⟩) hb).trans hcell
      have HS := Lib.hid hs
      have hss : s.size ≤ 13 := (nameB_size (HG.out s (List.mem_of_getElem? hs))).2
      have HRr : Hid (RefAt base wr D r t _ vN) := HR.out.below HB.out
      obtain ⟨m, hm, _, _, c1, _, hth⟩ := HRr.out.thing HOK.out HF.out HI.out
      obtain ⟨r0, r1, _⟩ := HRr.out.cells
      obtain ⟨nT, hnT⟩ : ∃ nT, t.things.length = nT := ⟨_, rfl⟩
      rw [hnT] at hm r0 HRr
      have HTh := Lib.hid hth
      have hm0 : (0 : Int) ≤ (m : Int) := by omega
      have hm1 : (m : Int) < (nT : Int) := by omega
      have hnT2 : nT ≤ 1000000 := by rw [← hnT]; exact HF.out.things
      clear hs hcell hth HL hnT
      cases hd : t.isDir j with
      | false =>
        rw [hd] at c1
        have HE := Lib.hid (walk_no HS.out HW.out hd)
        clear hd
        go_wp2
        go_quiet ((go_at_call 43; exact Calls.quiet_of_same (HTh.out _)))
        go_wp2
        go_ret2
        exact RWalkPost.mk HE.out (below_drewN HB.out _)
      | true =>
        rw [hd] at c1
        have HD := Lib.hid hd
        clear hd
        have HQ2 := Lib.hid (path_more (s := s) HQ.out)
        have HQS : Hid ((q ++ ((⟨#[47]⟩ : ByteArray) ++ s)).size ≤ 14 * (k + 1)) := by
          have h1 : (⟨#[47]⟩ : ByteArray).size = 1 := rfl
          show (q ++ ((⟨#[47]⟩ : ByteArray) ++ s)).size ≤ 14 * (k + 1)
          rw [ByteArray.size_append, ByteArray.size_append, h1]
          omega
        cases hfd : t.find (l.take k ++ [s]) with
        | none =>
          have HE := Lib.hid (walk_miss HS.out HW.out HD.out hfd)
          have HFd := Lib.hid hfd
          clear hfd
          go_wp2
          go_quiet ((go_at_call 43; exact Calls.quiet_of_same (HTh.out _)))
          go_wp2_with fail
          refine (rname_none (HRr.out.drewN _) HOK.out HF.out.names (good_take HG.out HS.out) HFd.out HQ2.out).mono ?_
          rintro e w1 ⟨rfl, rfl⟩
          go_wp2
          go_ret2
          exact RWalkPost.mk HE.out (below_drewN HB.out _)
        | some i =>
          have HE := Lib.hid (walk_step HS.out HW.out HD.out hfd)
          have HI2 : Hid (t.idOf (l.take (k + 1)) = some i) := by
            show t.idOf _ = _
            rw [take_more l k s HS.out, idOf_snoc]
            exact hfd
          have HQ3 : Hid (q ++ ((⟨#[47]⟩ : ByteArray) ++ s) = ofL (joinL (l.take (k + 1)))) := by
            show _ = _
            rw [take_more l k s HS.out]
            exact HQ2.out
          obtain ⟨m2, hm2, hcall⟩ := rname_some (HRr.out) HOK.out HF.out.names hfd HQ2.out
          have HM2 := Lib.hid hm2
          have HFd := Lib.hid hfd
          have hm3 := (List.getElem?_eq_some_iff.1 hm2).1
          obtain ⟨gN, cN, rfl, _, _⟩ := HRr.out.names.form (by omega)
          obtain ⟨_, n1⟩ := HRr.out.names.at' hm2
          obtain ⟨nN, hnN⟩ : ∃ nN, t.names.length = nN := ⟨_, rfl⟩
          rw [hnN] at hm3 r1 HRr
          have hm4 : (0 : Int) ≤ (m2 : Int) := by omega
          have hm5 : (m2 : Int) < (nN : Int) := by omega
          clear hfd hm2 hcall hnN
          go_wp2
          go_quiet ((go_at_call 43; exact Calls.quiet_of_same (HTh.out _)))
          go_wp2_with fail
          refine (rname_at (HRr.out.drewN _) HOK.out HF.out.names HM2.out HQ2.out).mono ?_
          rintro e w1 ⟨rfl, rfl⟩
          go_wp2
          go_roundw
          case rel => exact ⟨k + 1, i, _, by omega, by go_num, rfl, rfl, HQS.out, HQ3, HE, HI2, below_drewN HB.out _⟩
          case measure => simp [intOf]; omega
    · obtain rfl : k = n := by omega
      have HE : Hid (t.walk [] l 0 = (j, 0)) := by
        show t.walk [] l 0 = _
        rw [HW.out, List.drop_of_length_le (by have := HN.out; omega)]
        rfl
      go_wp2
      go_ret2
      exact RWalkPost.mk HE.out HB.out
end
end Go.Proofs.YtcgpmnlondnbhaaGreatDoor
