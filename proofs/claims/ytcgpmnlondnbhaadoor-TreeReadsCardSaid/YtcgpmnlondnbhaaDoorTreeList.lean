/-
  The tree's walks: tell of a list.
-/
import Derived.Test.YtcgpmnlondnbhaaDoorTreeTell
import Derived.Test.YtcgpmnlondnbhaaDoorSorted
namespace Go.Proofs.YtcgpmnlondnbhaaDoor
open Go Go.RowKit Txt Sp

theorem nameB_size {s : ByteArray} (h : nameB s = true) : s.size ≤ 14 := by
  unfold nameB nameL at h
  have hsz : s.data.toList.length = s.size := Array.length_toList
  simp at h
  omega

theorem kids_sorted {t : Sp.Tree} {p : List ByteArray} {l : List (ByteArray × Nat)} (h : (l.map (·.1)).Perm (t.kidsL p)) : (l.map (·.1)).mergeSort Sp.leT = t.kids p := by
  have h1 : ((l.map (·.1)).mergeSort Sp.leT).map Value.string = ((t.kidsL p).mergeSort Sp.leT).map Value.string := by
    rw [← keys_sorted (ss := (l.map (·.1)).map (·.data.toList)) (List.Perm.refl _), keys_sorted (h.map _)]
  exact (List.map_inj_right (fun a b e => by cases e; rfl)).1 h1

section
set_option maxHeartbeats 1000000
theorem tell_list {w : World} {B : Nat} {t : Sp.Tree} {φ μ : Nat → Nat} (hR : Rep w B t φ μ) (hok : t.Ok) (o : Sp.Op) (ho : OpOk o) (hm : MaxOk w) (hk : ∀ q, (t.kidsL q).length ≤ 1000000) (hl : o.kind = 11) :
    Calls Tryd.prog 32 #[ptr B, opV o] w (TellPost (t.tell o) w) := by
  have m1 := fun (r : Option Nat) (w : World) => run_eql_map_nil (P := Tryd.prog) w 64 _ _ r ht_map
  have m2 := fun (r : Option Nat) (w : World) => run_neq_map_nil (P := Tryd.prog) w 64 _ _ r ht_map
  obtain ⟨kind, path, tt, off, len, data⟩ := o
  have HR := Lib.hid hR
  have HOK := Lib.hid hok
  have HK := Lib.hid hk
  have hp := ho.path
  simp only at hp hl
  subst hl
  obtain ⟨i, c, hat⟩ : ∃ i c, t.at path = (i, c) := ⟨_, _, rfl⟩
  have HAT := Lib.hid hat
  have HBA1 := (Below.refl w.heap.size w).alloc (Nat.le_refl _) (.cells #[.int .i64 11, .string path, .string tt, .int .i64 off, .int .i64 len, .string data] 32)
  have HBA := HBA1.alloc HBA1.size (.cells #[.int .i64 0, .int .i64 0, .int .i64 0, .int .i64 0, .string ⟨#[]⟩, .slice none 0 0] 29)
  have HRA := Lib.hid (HR.out.below HBA)
  have hmA := hm.below HBA
  have HBA' := Lib.hid HBA
  clear hR hok hat hk ho HBA1 HBA
  unfold opV
  simp only
  by_cases h0 : c = 0
  · subst h0
    have HI : Hid (t.idOf (full path) = some i) := by
      have h := (at_ok t (path := path) (by rw [HAT.out])).2.2
      rw [HAT.out] at h
      exact h
    cases hd : t.isDir i with
    | false =>
      have HM : Hid (t.tell ⟨11, path, tt, off, len, data⟩ = { code := 103 }) := by
        show t.tell ⟨11, path, tt, off, len, data⟩ = _
        unfold Sp.Tree.tell; rw [HAT.out]; simp [hd]
      have HD := Lib.hid hd
      clear hd
      go_enter Tryd.func32, Tryd.ntmps32
      go_wp2_with fail
      refine (tat_any HRA.out HOK.out path hmA hp).mono ?_
      rintro e w1 ⟨rfl, hb⟩
      rw [HAT.out, thingV_ok rfl]
      unfold ptr
      obtain ⟨gc, gf⟩ := bcell hb
      have hz : w.heap.size + 1 < w1.heap.size := by have := hb.size; simp at this; omega
      have HB := Lib.hid (below_next HBA'.out hb)
      have c2 := (HR.out.below HB.out).fileCell HOK.out HI.out HD.out
      clear hb
      go_wp2
      refine bodyPost_ret (v := .agg #[.int .i64 103, .int .i64 0, .int .i64 0, .int .i64 0, .string ⟨#[]⟩, .slice none 0 0]) (by simp [results, Tryd.results32, go_sem, gc]) rfl ?_
      rw [HM.out]
      exact ⟨_, rfl, ⟨_, rfl, OwnTexts.void _ _⟩, below_six HB.out (Nat.le_succ _) _ _ _ _ _ _⟩
    | true =>
      have HM : Hid (t.tell ⟨11, path, tt, off, len, data⟩ = { names := t.kids (full path) }) := by
        show t.tell ⟨11, path, tt, off, len, data⟩ = _
        unfold Sp.Tree.tell; rw [HAT.out]; simp [hd]
      have HD := Lib.hid hd
      clear hd
      go_enter Tryd.func32, Tryd.ntmps32
      go_wp2_with fail
      refine (tat_any HRA.out HOK.out path hmA hp).mono ?_
      rintro e w1 ⟨rfl, hb⟩
      rw [HAT.out, thingV_ok rfl]
      unfold ptr
      have hz : w.heap.size + 1 < w1.heap.size := by have := hb.size; simp at this; omega
      have HBs := Lib.hid hb
      have HB := Lib.hid (below_next HBA'.out hb)
      have HR1 := Lib.hid (HR.out.below HB.out)
      have c2 := HR1.out.dirCell HI.out HD.out
      obtain ⟨gc, gf⟩ := bcell hb
      clear hb
      go_wp2_with fail
      refine (keys_any _ _).mono ?_
      rintro e w2 ⟨rfl, rfl⟩
      go_wp2_with fail
      obtain ⟨_, lj, hlj, _⟩ := HR1.out.dir i _ HI.out HD.out
      have hkeys := HR1.out.keys HOK.out HI.out HD.out hlj
      refine (sorted_any hlj (fun x hx => ?_) (by have := HK.out (full path); have h2 := hkeys.length_eq; rw [List.length_map] at h2; omega)).mono ?_
      · have h1 : x.1 ∈ t.kidsL (full path) := hkeys.mem_iff.1 (List.mem_map.2 ⟨x, hx, rfl⟩)
        obtain ⟨j, hj⟩ := kidsL_mem.1 h1
        exact Nat.le_trans (nameB_size (HOK.out.good _ _ hj _ (by simp))) (by decide)
      rintro e w3 ⟨v, rfl, htx, hb⟩
      have HKe := Lib.hid hkeys
      have HTx := Lib.hid htx
      obtain ⟨ad, k, cap, rfl⟩ : ∃ ad k cap, v = .slice ad k cap := by
        obtain ⟨_, _, ⟨h, _⟩ | ⟨_, _, _, h, _⟩⟩ := htx <;> exact ⟨_, _, _, h⟩
      have hb13 := below_next ((Below.refl w1.heap.size w1).alloc (Nat.le_refl _) (.cells #[.map (some (μ i))] 64)) hb
      obtain ⟨gc3, gf3⟩ := bcell (below_next HBs.out hb13)
      have HB3 := Lib.hid (below_next HB.out hb13)
      clear hlj hkeys htx hb hb13 gc gf
      go_wp2
      refine bodyPost_ret (v := .agg #[.int .i64 0, .int .i64 0, .int .i64 0, .int .i64 0, .string ⟨#[]⟩, .slice ad k cap]) (by simp [results, Tryd.results32, go_sem, gc3]) rfl ?_
      rw [HM.out]
      refine ⟨_, rfl, ⟨_, rfl, ?_⟩, below_six HB3.out (Nat.le_succ _) _ _ _ _ _ _⟩
      show OwnTexts _ _ _ (t.kids (full path))
      rw [← kids_sorted HKe.out]
      refine (HTx.out.same (fun k hk o ho => ?_)).mono (by omega)
      have hne : k ≠ w.heap.size + 1 := by omega
      rw [heap_setCell_ne _ hne, heap_setCell_ne _ hne, heap_setCell_ne _ hne, heap_setCell_ne _ hne, heap_setCell_ne _ hne, heap_setCell_ne _ hne]
      exact ho
  · have HM : Hid (t.tell ⟨11, path, tt, off, len, data⟩ = { code := c }) := by show t.tell ⟨11, path, tt, off, len, data⟩ = _; unfold Sp.Tree.tell; rw [HAT.out, if_neg h0]
    have hc0 : (c == 0) = false := beq_eq_false_iff_ne.2 h0
    have HV := Lib.hid (thingV_err (φ := φ) HAT.out h0)
    clear h0
    go_enter Tryd.func32, Tryd.ntmps32
    go_wp2_with fail
    refine (tat_any HRA.out HOK.out path hmA hp).mono ?_
    rintro e w1 ⟨rfl, hb⟩
    rw [HV.out, HAT.out]
    obtain ⟨gc, gf⟩ := bcell hb
    have hz : w.heap.size + 1 < w1.heap.size := by have := hb.size; simp at this; omega
    have HB := Lib.hid (below_next HBA'.out hb)
    clear hb
    go_wp2
    refine bodyPost_ret (v := .agg #[.int .i64 c, .int .i64 0, .int .i64 0, .int .i64 0, .string ⟨#[]⟩, .slice none 0 0]) (by simp [results, Tryd.results32, go_sem, gc]) rfl ?_
    rw [HM.out]
    exact ⟨_, rfl, ⟨_, rfl, OwnTexts.void _ _⟩, below_six HB.out (Nat.le_succ _) _ _ _ _ _ _⟩
end
end Go.Proofs.YtcgpmnlondnbhaaDoor
