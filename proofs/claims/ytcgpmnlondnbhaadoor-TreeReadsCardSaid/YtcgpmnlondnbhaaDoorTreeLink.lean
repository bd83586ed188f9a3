/-
  The tree's walks: link, remove.
-/
import Derived.Test.YtcgpmnlondnbhaaDoorTreeMake
import Derived.Test.YtcgpmnlondnbhaaDoorRepKids
namespace Go.Proofs.YtcgpmnlondnbhaaDoor
open Go Go.RowKit Txt Sp

theorem remove_err {t : Sp.Tree} {p : ByteArray} {dir : Bool} {c : Int} (h : t.dirC p = c) (hc : c ≠ 0) : t.remove p dir = (t, c) := by
  unfold Sp.Tree.remove; rw [h, if_neg hc]
theorem remove_none {t : Sp.Tree} {p : ByteArray} {dir : Bool} (h : t.dirC p = 0) (hf : t.find (full p) = none) : t.remove p dir = (t, 100) := by
  unfold Sp.Tree.remove; rw [h, if_pos rfl, hf]
theorem remove_isdir {t : Sp.Tree} {p : ByteArray} {j : Nat} (h : t.dirC p = 0) (hf : t.find (full p) = some j) (hd : t.isDir j = true) : t.remove p false = (t, 102) := by
  unfold Sp.Tree.remove; rw [h, if_pos rfl, hf]; simp [hd]
theorem remove_isfile {t : Sp.Tree} {p : ByteArray} {j : Nat} (h : t.dirC p = 0) (hf : t.find (full p) = some j) (hd : t.isDir j = false) : t.remove p true = (t, 103) := by
  unfold Sp.Tree.remove; rw [h, if_pos rfl, hf]; simp [hd]
theorem remove_full {t : Sp.Tree} {p : ByteArray} {j : Nat} (h : t.dirC p = 0) (hf : t.find (full p) = some j) (hd : t.isDir j = true) (hk : t.kidsL (full p) ≠ []) : t.remove p true = (t, 104) := by
  unfold Sp.Tree.remove; rw [h, if_pos rfl, hf]; simp [hd, hk]
theorem remove_file {t : Sp.Tree} {p : ByteArray} {j : Nat} (h : t.dirC p = 0) (hf : t.find (full p) = some j) (hd : t.isDir j = false) : t.remove p false = (t.forget (full p), 0) := by
  unfold Sp.Tree.remove; rw [h, if_pos rfl, hf]; simp [hd]
theorem remove_dir {t : Sp.Tree} {p : ByteArray} {j : Nat} (h : t.dirC p = 0) (hf : t.find (full p) = some j) (hd : t.isDir j = true) (hk : t.kidsL (full p) = []) : t.remove p true = (t.forget (full p), 0) := by
  unfold Sp.Tree.remove; rw [h, if_pos rfl, hf]; simp [hd, hk]

section
variable {w w' : World} {B : Nat} {t : Sp.Tree} {φ μ : Nat → Nat}
theorem dom_forget (hok : t.Ok) {p : List ByteArray} {i : Nat} (hf : t.find p = some i) (hbelow : ∀ s j, (p ++ [s], j) ∉ t.names) {k : Nat} (h : Rep.dom B (t.forget p) φ μ k) : Rep.dom B t φ μ k := by
  rcases h with rfl | ⟨j, ⟨b, d, hj⟩, h⟩
  · exact Or.inl rfl
  · have hj' := ((forget_thing hok hf).1 hj).1
    refine Or.inr ⟨j, ⟨b, d, hj'⟩, ?_⟩
    rw [isDir_of (hok.forget hf hbelow) hj] at h
    rw [isDir_of hok hj']
    exact h
end

section
set_option maxHeartbeats 1000000
theorem len0 : Tryd.prog.underlying 64 = some (.map (Tryd.prog.mapKeyOf 64) (Tryd.prog.mapElemOf 64)) := by kernel_rfl

theorem nil_len (w : World) : (Builtin.len_ #[64] 3 #[.map none]).run Tryd.prog w = .ok (.int .i64 0) w := by
  rw [run_len_nilMap w 64 3 len0]
  rfl

/-- What of remove is said. -/
def RemovePost (w : World) (B : Nat) (t : Sp.Tree) (φ μ : Nat → Nat) (p : ByteArray) (dir : Bool) (e : Ending) (w' : World) : Prop :=
  e = .returned (.int .i64 (t.remove p dir).2) ∧ Rep w' B (t.remove p dir).1 φ μ ∧ Turn (Rep.dom B t φ μ) w w' ∧ ∀ k, Rep.dom B (t.remove p dir).1 φ μ k → Rep.dom B t φ μ k
theorem RemovePost.same {w w' : World} {B : Nat} {t : Sp.Tree} {φ μ : Nat → Nat} {p : ByteArray} {dir : Bool} {c : Int} (h : t.remove p dir = (t, c)) (hR : Rep w B t φ μ) (hb : Below w.heap.size w w') : RemovePost w B t φ μ p dir (.returned (.int .i64 c)) w' := by
  unfold RemovePost
  rw [h]
  exact ⟨rfl, hR.below hb, Turn.of_below hb, fun _ h => h⟩

theorem RemovePost.done {w w2 w3 : World} {B : Nat} {t : Sp.Tree} {φ μ : Nat → Nat} {p : ByteArray} {dir : Bool} (hM : t.remove p dir = (t.forget (full p), 0)) {l : List ByteArray} {s : ByteArray} (hfull : full p = l ++ [s]) (hok : t.Ok) (hB : Below w.heap.size w w2) (hR2 : Rep w2 B t φ μ)
    {i j : Nat} (hl : t.idOf l = some i) (hd : t.isDir i = true) (hf : t.find (l ++ [s]) = some j) (hk : t.isDir j = true → t.kidsL (l ++ [s]) = []) {l1 : List (ByteArray × Nat)} (hl1 : MapAt w2 (μ i) l1) {d : ByteArray} {m : Option Nat} {o' : Obj}
    (hwas : w2.heap[φ j]? = some (thingO d (t.links j) m)) (ho' : IsMap o' (delM l1 s)) (hmo : w3.heap[μ i]? = some o') (hbo : w3.heap[φ j]? = some (thingO d (t.links j - 1) m)) (hT : Turn (fun k => k = μ i ∨ k = φ j) w2 w3) :
    RemovePost w B t φ μ p dir (.returned (.int .i64 0)) w3 := by
  have hbelow := nothing_below hok hf hk
  have hi := has_idOf hok hl
  have hj := has_idOf hok (find_idOf hok hf)
  have hrep := hR2.forget hok hl hd hf hbelow hl1 (fun b o ho h1 h2 => hT.heap ho (fun h => h.elim h1 h2)) hwas hbo hmo ho'
  unfold RemovePost
  rw [hM, hfull]
  refine ⟨rfl, hrep, (Turn.of_below hB).trans hT (K1 := Rep.dom B t φ μ) (fun _ _ h => h) (fun k _ h => ?_), fun k h => dom_forget hok hf hbelow h⟩
  rcases h with rfl | rfl
  · exact dom_map hi hd
  · exact dom_thing hj

theorem remove_any {w : World} {B : Nat} {t : Sp.Tree} {φ μ : Nat → Nat} (hR : Rep w B t φ μ) (hok : t.Ok) (p : ByteArray) (hm : MaxOk w) (hs : p.size ≤ 4000000000) (dir : Bool) (hlinks : ∀ i, t.links i ≤ 1000000) (hk : ∀ q, (t.kidsL q).length ≤ 1000000) :
    Calls Tryd.prog 28 #[ptr B, .string p, .bool dir] w (RemovePost w B t φ μ p dir) := by
  have m1 := fun (r : Option Nat) (w : World) => run_eql_map_nil (P := Tryd.prog) w 64 _ _ r ht_map
  have m2 := fun (r : Option Nat) (w : World) => run_neq_map_nil (P := Tryd.prog) w 64 _ _ r ht_map
  have l0 := nil_len
  have HR := Lib.hid hR
  have HOK := Lib.hid hok
  have HL := Lib.hid hlinks
  have HK := Lib.hid hk
  obtain ⟨c, hc⟩ : ∃ c, t.dirC p = c := ⟨_, rfl⟩
  have HC := Lib.hid hc
  clear hR hok hlinks hk
  by_cases h0 : c = 0
  · subst h0
    clear hc
    go_enter Tryd.func28, Tryd.ntmps28
    go_wp2_with fail
    refine (place_any HR.out HOK.out p hm hs).mono ?_
    rintro e w1 ⟨⟨v, s, rfl, hpl⟩, hb⟩
    obtain ⟨l, i, h1, h2, h3, h4, h5, rfl⟩ := hpl HC.out
    rw [HC.out]
    have HB := Lib.hid hb
    have HR1 := Lib.hid (HR.out.below hb)
    have H2 := Lib.hid h2
    have H3 := Lib.hid h3
    have H4 := Lib.hid h4
    clear hpl hb h1 h2 h3 h4 h5
    go_wp2_with fail
    refine (is_any (HR1.out.below ((Below.refl _ _).alloc (Nat.le_refl _) _)) H3.out H4.out s).mono ?_
    rintro e w2 ⟨rfl, hb2⟩
    have hb12 := below_next ((Below.refl w1.heap.size w1).alloc (Nat.le_refl _) _) hb2
    have hbl : w2.heap[w1.heap.size]? = some (.cells #[ptr (φ i), .string s] 88 (0, 0)) := heap_below hb2 _ _ (heap_alloc_new w1 _)
    have c0 : w2.cell? ⟨w1.heap.size, 0, none⟩ = some (ptr (φ i)) := cell_of_heap hbl rfl
    have c1 : w2.cell? ⟨w1.heap.size, 1, none⟩ = some (.string s) := cell_of_heap hbl rfl
    have HB2 := Lib.hid (below_next HB.out hb12)
    have HR2 := Lib.hid (HR.out.below HB2.out)
    cases hf : t.find (l ++ [s]) with
    | none =>
      have HM := Lib.hid (remove_none (dir := dir) HC.out (by rw [H2.out]; exact hf))
      clear hb2 hb12 hbl hf
      simp only [Option.map_none, ptrO]
      go_wp2
      go_ret
      exact RemovePost.same HM.out HR.out HB2.out
    | some j =>
      have HF := Lib.hid hf
      have HJ : Hid (t.idOf (l ++ [s]) = some j) := find_idOf HOK.out hf
      obtain ⟨hd1, l1, hl1, _⟩ := HR2.out.dir i l H3.out H4.out
      have HD1 := Lib.hid hd1
      have HL1 := Lib.hid hl1
      have hget : Hid (getM l1 s = some (φ j)) := by
        show getM l1 s = some (φ j)
        rw [HR2.out.entries H3.out H4.out hl1, hf]; rfl
      clear hb2 hb12 hbl hf hd1 hl1
      simp only [Option.map_some, ptrO, ptr]
      unfold ptr at c0
      cases hd : t.isDir j with
      | true =>
        have c2 := HR2.out.dirCell HJ.out hd
        have Hd := Lib.hid hd
        cases dir with
        | false =>
          have HM := Lib.hid (remove_isdir HC.out (by rw [H2.out]; exact HF.out) hd)
          clear hd
          go_wp2
          go_ret
          exact RemovePost.same HM.out HR.out HB2.out
        | true =>
          obtain ⟨hdj, lj, hlj, _⟩ := HR2.out.dir j _ HJ.out hd
          have HLen := Lib.hid (HR2.out.len HOK.out HJ.out hd hlj)
          have hlen := run_len_ptr (P := Tryd.prog) (ty := 3) len0 hlj
          obtain ⟨n, hn⟩ : ∃ n, lj.length = n := ⟨_, rfl⟩
          have HN := Lib.hid hn
          have hnb : n ≤ 1000000 := by rw [← hn, HLen.out]; exact HK.out _
          rw [hn] at hlen
          clear hd hn
          by_cases hn0 : n = 0
          · have HKE : Hid (t.kidsL (l ++ [s]) = []) := List.length_eq_zero_iff.1 (by rw [← HLen.out, HN.out]; exact hn0)
            have HM : Hid (t.remove p true = (t.forget (full p), 0)) := remove_dir HC.out (by rw [H2.out]; exact HF.out) Hd.out (by rw [H2.out]; exact HKE.out)
            have HTh := Lib.hid hdj
            subst hn0
            clear hlj hdj
            go_wp2_with fail
            refine (away_any HD1.out HL1.out hget.out HTh.out (HL.out j) (links_pos HOK.out HF.out)).mono ?_
            rintro e w3 ⟨rfl, ⟨o', ho', hmo⟩, hbo, hT⟩
            go_wp2
            go_ret
            exact RemovePost.done HM.out H2.out HOK.out HB2.out HR2.out H3.out H4.out HF.out (fun _ => HKE.out) HL1.out HTh.out ho' hmo hbo hT
          · have HM : Hid (t.remove p true = (t, 104)) := remove_full HC.out (by rw [H2.out]; exact HF.out) Hd.out (by
              rw [H2.out]
              intro e
              have h1 := HLen.out
              rw [e, HN.out] at h1
              exact hn0 h1)
            have hpos : 0 < n := by omega
            clear hn0 hlj hdj
            go_wp2
            go_ret
            exact RemovePost.same HM.out HR.out HB2.out
      | false =>
        have c2 := HR2.out.fileCell HOK.out HJ.out hd
        have Hd := Lib.hid hd
        cases dir with
        | true =>
          have HM := Lib.hid (remove_isfile HC.out (by rw [H2.out]; exact HF.out) hd)
          clear hd
          go_wp2
          go_ret
          exact RemovePost.same HM.out HR.out HB2.out
        | false =>
          have HM := Lib.hid (remove_file HC.out (by rw [H2.out]; exact HF.out) hd)
          have hth := there_idOf HOK.out HJ.out
          rw [hd] at hth
          have HTh := Lib.hid (HR2.out.file j _ hth)
          clear hd hth
          go_wp2_with fail
          refine (away_any HD1.out HL1.out hget.out HTh.out (HL.out j) (links_pos HOK.out HF.out)).mono ?_
          rintro e w3 ⟨rfl, ⟨o', ho', hmo⟩, hbo, hT⟩
          go_wp2
          go_ret
          exact RemovePost.done HM.out H2.out HOK.out HB2.out HR2.out H3.out H4.out HF.out (fun h => by rw [Hd.out] at h; cases h) HL1.out HTh.out ho' hmo hbo hT
  · have HM := Lib.hid (remove_err (dir := dir) hc h0)
    have hc0 : (c == 0) = false := beq_eq_false_iff_ne.2 h0
    clear hc h0
    go_enter Tryd.func28, Tryd.ntmps28
    go_wp2_with fail
    refine (place_any HR.out HOK.out p hm hs).mono ?_
    rintro e w1 ⟨⟨v, s, rfl, hpl⟩, hb⟩
    rw [HC.out]
    have HB := Lib.hid hb
    clear hpl hb
    go_wp2
    go_ret
    exact RemovePost.same HM.out HR.out (HB.out.alloc HB.out.size _)
end
end Go.Proofs.YtcgpmnlondnbhaaDoor
