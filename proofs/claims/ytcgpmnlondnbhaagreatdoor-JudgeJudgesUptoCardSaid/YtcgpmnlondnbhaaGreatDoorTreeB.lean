/-
  TreeB: TreeName, TreeOnto, TreeMove, TreeRename, BytesRow, TreeBytes, TreePiece, TreeBack.
-/
import Derived.Test.YtcgpmnlondnbhaaGreatDoorTreeA
import Derived.Test.YtcgpmnlondnbhaaGreatDoorNamesA
import Derived.LaidEqlPtr
import Derived.Laws.MakeOwn
import Derived.Laws.OwnMore
import Derived.Laws.CopyRow
import Derived.Laws.IdiomStrings
import Derived.Laws.CopyOwn
namespace Go.Proofs.YtcgpmnlondnbhaaGreatDoor
open Go Go.RowKit Txt Sp

theorem link_err {t : Sp.Tree} {p tt : ByteArray} (hc : (t.at p).2 ≠ 0) : t.link p tt = (t, (t.at p).2) := by
  unfold Sp.Tree.link; rw [if_neg hc]
theorem link_dir {t : Sp.Tree} {p tt : ByteArray} {i : Nat} (h : t.at p = (i, 0)) (hd : t.isDir i = true) : t.link p tt = (t, 102) := by
  unfold Sp.Tree.link; rw [h, if_pos rfl, if_pos hd]
theorem link_err2 {t : Sp.Tree} {p tt : ByteArray} {i : Nat} (h : t.at p = (i, 0)) (hd : t.isDir i = false) {c : Int} (h2 : t.dirC tt = c) (hc : c ≠ 0) : t.link p tt = (t, c) := by
  unfold Sp.Tree.link; rw [h, if_pos rfl, hd, h2, if_neg (by simp), if_neg hc]
theorem link_exist {t : Sp.Tree} {p tt : ByteArray} {i j : Nat} (h : t.at p = (i, 0)) (hd : t.isDir i = false) (h2 : t.dirC tt = 0) (hf : t.find (full tt) = some j) : t.link p tt = (t, 101) := by
  unfold Sp.Tree.link; rw [h, if_pos rfl, hd, h2, if_neg (by simp), if_pos rfl, hf]; rfl
theorem link_many {t : Sp.Tree} {p tt : ByteArray} {i : Nat} (h : t.at p = (i, 0)) (hd : t.isDir i = false) (h2 : t.dirC tt = 0) (hf : t.find (full tt) = none) (hm : 200 ≤ t.links i) : t.link p tt = (t, 105) := by
  unfold Sp.Tree.link; rw [h, if_pos rfl, hd, h2, if_neg (by simp), if_pos rfl, hf]; simp [hm]
theorem link_ok {t : Sp.Tree} {p tt : ByteArray} {i : Nat} (h : t.at p = (i, 0)) (hd : t.isDir i = false) (h2 : t.dirC tt = 0) (hf : t.find (full tt) = none) (hm : t.links i < 200) : t.link p tt = (t.named (full tt) i, 0) := by
  unfold Sp.Tree.link; rw [h, if_pos rfl, hd, h2, if_neg (by simp), if_pos rfl, hf]; simp [Nat.not_le.2 hm, Sp.Tree.named]

section
set_option maxHeartbeats 1000000
/-- What of an operation that leaves no new block is said. -/
def OpPost (r : Sp.Tree × Int) (w : World) (B : Nat) (t : Sp.Tree) (φ μ : Nat → Nat) (e : Ending) (w' : World) : Prop :=
  e = .returned (.int .i64 r.2) ∧ Rep w' B r.1 φ μ ∧ Turn (Rep.dom B t φ μ) w w' ∧ ∀ k, Rep.dom B r.1 φ μ k → Rep.dom B t φ μ k
theorem OpPost.same {r : Sp.Tree × Int} {w w' : World} {B : Nat} {t : Sp.Tree} {φ μ : Nat → Nat} {c : Int} (h : r = (t, c)) (hR : Rep w B t φ μ) (hb : Below w.heap.size w w') : OpPost r w B t φ μ (.returned (.int .i64 c)) w' := by
  subst h
  exact ⟨rfl, hR.below hb, Turn.of_below hb, fun _ h => h⟩

theorem dom_named {B : Nat} {t : Sp.Tree} {φ μ : Nat → Nat} {q : List ByteArray} {k j : Nat} (h : Rep.dom B (t.named q k) φ μ j) : Rep.dom B t φ μ j := h

theorem link_any {w : World} {B : Nat} {t : Sp.Tree} {φ μ : Nat → Nat} (hR : Rep w B t φ μ) (hok : t.Ok) (p tt : ByteArray) (hm : MaxOk w) (hs : p.size ≤ 4000000000) (hs2 : tt.size ≤ 4000000000) (hlinks : ∀ i, t.links i ≤ 1000000) :
    Calls Tryz.prog 29 #[ptr B, .string p, .string tt] w (OpPost (t.link p tt) w B t φ μ) := by
  have m1 := fun (r : Option Nat) (w : World) => run_eql_map_nil (P := Tryz.prog) w 55 _ _ r ht_map
  have m2 := fun (r : Option Nat) (w : World) => run_neq_map_nil (P := Tryz.prog) w 55 _ _ r ht_map
  have HR := Lib.hid hR
  have HOK := Lib.hid hok
  have HL := Lib.hid hlinks
  obtain ⟨i, c, hat⟩ : ∃ i c, t.at p = (i, c) := ⟨_, _, rfl⟩
  have HAT := Lib.hid hat
  clear hR hok hlinks hat
  by_cases h0 : c = 0
  · subst h0
    have HI : Hid (t.idOf (full p) = some i) := by
      have h := (at_ok t (path := p) (by rw [HAT.out])).2.2
      rw [HAT.out] at h
      exact h
    cases hd : t.isDir i with
    | true =>
      have HM := Lib.hid (link_dir (tt := tt) HAT.out hd)
      have HD := Lib.hid hd
      clear hd
      go_enter Tryz.func29, Tryz.ntmps29
      go_wp2_with fail
      refine (tat_any HR.out HOK.out p hm hs).mono ?_
      rintro e w1 ⟨rfl, hb⟩
      rw [HAT.out, thingV_ok rfl]
      have HB := Lib.hid hb
      have c2 := (HR.out.below hb).dirCell HI.out HD.out
      clear hb
      unfold ptr
      go_wp2
      go_ret
      exact OpPost.same HM.out HR.out HB.out
    | false =>
      have HD := Lib.hid hd
      obtain ⟨c, hc⟩ : ∃ c, t.dirC tt = c := ⟨_, rfl⟩
      have HC := Lib.hid hc
      clear hd
      by_cases h1 : c = 0
      · subst h1
        clear hc
        go_enter Tryz.func29, Tryz.ntmps29
        go_wp2_with fail
        refine (tat_any HR.out HOK.out p hm hs).mono ?_
        rintro e w1 ⟨rfl, hb⟩
        rw [HAT.out, thingV_ok rfl]
        have HB := Lib.hid hb
        have HR1 := Lib.hid (HR.out.below hb)
        have hm1 := hm.below hb
        have c2 := HR1.out.fileCell HOK.out HI.out HD.out
        clear hb
        unfold ptr
        go_wp2_with fail
        refine (place_any HR1.out HOK.out tt hm1 hs2).mono ?_
        rintro e w2 ⟨⟨v, s, rfl, hpl⟩, hb⟩
        obtain ⟨l, a, h1, h2, h3, h4, h5, rfl⟩ := hpl HC.out
        rw [HC.out]
        have HB2 := Lib.hid (below_next HB.out hb)
        have HR2 := Lib.hid (HR.out.below HB2.out)
        have H2 := Lib.hid h2
        have H3 := Lib.hid h3
        have H4 := Lib.hid h4
        have H5 := Lib.hid h5
        clear hpl hb h1 h2 h3 h4 h5 c2
        go_wp2_with fail
        refine (is_any (HR2.out.below ((Below.refl _ _).alloc (Nat.le_refl _) _)) H3.out H4.out s).mono ?_
        rintro e w3 ⟨rfl, hb2⟩
        have hb12 := below_next ((Below.refl w2.heap.size w2).alloc (Nat.le_refl _) _) hb2
        have hbl : w3.heap[w2.heap.size]? = some (.cells #[ptr (φ a), .string s] 90 (0, 0)) := heap_below hb2 _ _ (heap_alloc_new w2 _)
        have c0 : w3.cell? ⟨w2.heap.size, 0, none⟩ = some (ptr (φ a)) := cell_of_heap hbl rfl
        have c1 : w3.cell? ⟨w2.heap.size, 1, none⟩ = some (.string s) := cell_of_heap hbl rfl
        have HB3 := Lib.hid (below_next HB2.out hb12)
        have HR3 := Lib.hid (HR.out.below HB3.out)
        cases hf : t.find (l ++ [s]) with
        | some j =>
          have HM := Lib.hid (link_exist HAT.out HD.out HC.out (by rw [H2.out]; exact hf))
          clear hb2 hb12 hbl hf
          simp only [Option.map_some, ptrO, ptr]
          go_wp2
          go_ret
          exact OpPost.same HM.out HR.out HB3.out
        | none =>
          have HF := Lib.hid hf
          have hth := there_idOf HOK.out HI.out
          rw [HD.out] at hth
          have HTh := Lib.hid hth
          have hob := HR3.out.file i _ hth
          have HOB := Lib.hid hob
          have c3 : w3.cell? ⟨φ i, 1, none⟩ = some (.int .i64 (t.links i)) := cell_of_heap hob rfl
          obtain ⟨n, hn⟩ : ∃ n, t.links i = n := ⟨_, rfl⟩
          have HN := Lib.hid hn
          rw [hn] at c3
          have hn1 : n ≤ 1000000 := by rw [← hn]; exact HL.out i
          clear hb2 hb12 hbl hf hth hob hn
          simp only [Option.map_none, ptrO]
          unfold ptr at c0
          by_cases hbig : 200 ≤ n
          · have HM := Lib.hid (link_many HAT.out HD.out HC.out (by rw [H2.out]; exact HF.out) (by rw [HN.out]; exact hbig))
            have hbi : (n : Int) ≥ 200 := by omega
            have hdec : decide ((n : Int) ≥ 200) = true := decide_eq_true hbi
            clear hbig
            go_wp2
            go_ret
            exact OpPost.same HM.out HR.out HB3.out
          · have HM := Lib.hid (link_ok HAT.out HD.out HC.out (by rw [H2.out]; exact HF.out) (by rw [HN.out]; omega))
            have hbi : ¬ (n : Int) ≥ 200 := by omega
            clear hbig
            obtain ⟨hd1, l0, hl0, hl1⟩ := HR3.out.dir a l H3.out H4.out
            have HD1 := Lib.hid hd1
            have HL0 := Lib.hid hl0
            clear hd1 hl0 hl1
            go_wp2_with fail
            refine (put_any HD1.out HL0.out HOB.out (HL.out i)).mono ?_
            rintro e w4 ⟨rfl, ⟨o', ho', hmo⟩, hbo, hT⟩
            go_wp2
            go_ret
            have hi := has_idOf HOK.out H3.out
            have hrep := HR3.out.named HOK.out H3.out H4.out H5.out HF.out HTh.out HL0.out (fun b o ho h1 h2 => hT.heap ho (fun h => h.elim h1 h2)) hbo hmo ho'
            unfold OpPost
            rw [HM.out, H2.out]
            refine ⟨rfl, hrep, (Turn.of_below HB3.out).trans hT (K1 := Rep.dom B t φ μ) (fun _ _ h => h) (fun k _ h => ?_), fun k h => dom_named h⟩
            rcases h with rfl | rfl
            · exact dom_map hi H4.out
            · exact dom_thing ⟨_, _, HTh.out⟩
      · have HM := Lib.hid (link_err2 HAT.out HD.out hc h1)
        have hc0 : (c == 0) = false := beq_eq_false_iff_ne.2 h1
        clear hc h1
        go_enter Tryz.func29, Tryz.ntmps29
        go_wp2_with fail
        refine (tat_any HR.out HOK.out p hm hs).mono ?_
        rintro e w1 ⟨rfl, hb⟩
        rw [HAT.out, thingV_ok rfl]
        have HB := Lib.hid hb
        have HR1 := Lib.hid (HR.out.below hb)
        have hm1 := hm.below hb
        have c2 := HR1.out.fileCell HOK.out HI.out HD.out
        clear hb
        unfold ptr
        go_wp2_with fail
        refine (place_any HR1.out HOK.out tt hm1 hs2).mono ?_
        rintro e w2 ⟨⟨v, s, rfl, hpl⟩, hb⟩
        rw [HC.out]
        have HB2 := Lib.hid (below_next HB.out hb)
        clear hpl hb c2
        go_wp2
        go_ret
        exact OpPost.same HM.out HR.out (HB2.out.alloc HB2.out.size _)
  · have HM := Lib.hid (link_err (tt := tt) (t := t) (p := p) (by rw [HAT.out]; exact h0))
    have hc0 : (c == 0) = false := beq_eq_false_iff_ne.2 h0
    have HV := Lib.hid (thingV_err (φ := φ) HAT.out h0)
    clear h0
    go_enter Tryz.func29, Tryz.ntmps29
    go_wp2_with fail
    refine (tat_any HR.out HOK.out p hm hs).mono ?_
    rintro e w1 ⟨rfl, hb⟩
    rw [HV.out, HAT.out]
    have HB := Lib.hid hb
    clear hb
    go_wp2
    go_ret
    exact OpPost.same (by rw [HM.out, HAT.out]) HR.out HB.out
end
end Go.Proofs.YtcgpmnlondnbhaaGreatDoor

namespace Go.Proofs.YtcgpmnlondnbhaaGreatDoor
open Go Go.RowKit Txt Sp

def Sp.Tree.ontoC (t : Sp.Tree) (i : Nat) (q : List ByteArray) : Int :=
  match t.find q with
  | none => 0
  | some j => if t.isDir j = true ∧ t.isDir i = false then 102 else if t.isDir j = false ∧ t.isDir i = true then 103 else if t.isDir j = true ∧ t.kidsL q ≠ [] then 104 else 0

section
variable {t : Sp.Tree} {p tt : ByteArray} {i j : Nat} {c : Int}
theorem rename_err (h : t.dirC p = c) (hc : c ≠ 0) : t.rename p tt = (t, c) := by
  unfold Sp.Tree.rename; rw [h, if_neg hc]
theorem rename_none (h : t.dirC p = 0) (hf : t.find (full p) = none) : t.rename p tt = (t, 100) := by
  unfold Sp.Tree.rename; rw [h, if_pos rfl, hf]
theorem rename_err2 (h : t.dirC p = 0) (hf : t.find (full p) = some i) (h2 : (lastN tt).2.2 = c) (hc : c ≠ 0) : t.rename p tt = (t, c) := by
  unfold Sp.Tree.rename; rw [h, if_pos rfl, hf, h2, ]; simp only; rw [if_neg hc]
theorem rename_loop (h : t.dirC p = 0) (hf : t.find (full p) = some i) (h2 : (lastN tt).2.2 = 0) (hl : t.isDir i = true ∧ full p <+: full tt ∧ p ≠ tt) : t.rename p tt = (t, 107) := by
  unfold Sp.Tree.rename; rw [h, if_pos rfl, hf, h2]; simp only; rw [if_pos trivial, if_pos hl]
theorem rename_err3 (h : t.dirC p = 0) (hf : t.find (full p) = some i) (h2 : (lastN tt).2.2 = 0) (hl : ¬ (t.isDir i = true ∧ full p <+: full tt ∧ p ≠ tt)) (h3 : t.dirC tt = c) (hc : c ≠ 0) : t.rename p tt = (t, c) := by
  unfold Sp.Tree.rename; rw [h, if_pos rfl, hf, h2, h3]; simp only; rw [if_pos trivial, if_neg hl, if_neg hc]
theorem rename_new (h : t.dirC p = 0) (hf : t.find (full p) = some i) (h2 : (lastN tt).2.2 = 0) (hl : ¬ (t.isDir i = true ∧ full p <+: full tt ∧ p ≠ tt)) (h3 : t.dirC tt = 0) (hg : t.find (full tt) = none) :
    t.rename p tt = (t.move (t.isDir i) (full p) (full tt), 0) := by
  unfold Sp.Tree.rename; rw [h, if_pos rfl, hf, h2, h3]; simp only; rw [if_pos trivial, if_neg hl, if_pos trivial, hg]
theorem rename_same (h : t.dirC p = 0) (hf : t.find (full p) = some i) (h2 : (lastN tt).2.2 = 0) (hl : ¬ (t.isDir i = true ∧ full p <+: full tt ∧ p ≠ tt)) (h3 : t.dirC tt = 0) (hg : t.find (full tt) = some i) : t.rename p tt = (t, 0) := by
  unfold Sp.Tree.rename; rw [h, if_pos rfl, hf, h2, h3]; simp only; rw [if_pos trivial, if_neg hl, if_pos trivial, hg]; simp
theorem rename_onto (h : t.dirC p = 0) (hf : t.find (full p) = some i) (h2 : (lastN tt).2.2 = 0) (hl : ¬ (t.isDir i = true ∧ full p <+: full tt ∧ p ≠ tt)) (h3 : t.dirC tt = 0) (hg : t.find (full tt) = some j) (hij : i ≠ j) :
    t.rename p tt = if t.ontoC i (full tt) = 0 then ((t.forget (full tt)).move (t.isDir i) (full p) (full tt), 0) else (t, t.ontoC i (full tt)) := by
  unfold Sp.Tree.rename Sp.Tree.ontoC; rw [h, if_pos rfl, hf, h2, h3]; simp only; rw [if_pos trivial, if_neg hl, if_pos trivial, hg]; simp only; rw [if_neg hij]
  split
  · rw [if_neg (by decide)]
  · split
    · rw [if_neg (by decide)]
    · split
      · rw [if_neg (by decide)]
      · rw [if_pos rfl]
end

section
set_option maxHeartbeats 1000000
theorem onto_any {w : World} {B : Nat} {t : Sp.Tree} {φ μ : Nat → Nat} (hR : Rep w B t φ μ) (hok : t.Ok) {i : Nat} {p : List ByteArray} (hp : t.idOf p = some i) (q : List ByteArray) (hk : ∀ q, (t.kidsL q).length ≤ 1000000) :
    Calls Tryz.prog 55 #[ptr (φ i), ptrO ((t.find q).map φ)] w fun e w' => e = .returned (.int .i64 (t.ontoC i q)) ∧ Below w.heap.size w w' := by
  have m1 := fun (r : Option Nat) (w : World) => run_eql_map_nil (P := Tryz.prog) w 55 _ _ r ht_map
  have m2 := fun (r : Option Nat) (w : World) => run_neq_map_nil (P := Tryz.prog) w 55 _ _ r ht_map
  have l0 := nil_len
  have HR := Lib.hid hR
  have HOK := Lib.hid hok
  have HP := Lib.hid hp
  have HK := Lib.hid hk
  clear hR hok hp hk
  cases hq : t.find q with
  | none =>
    have HC : Hid (t.ontoC i q = 0) := by show t.ontoC i q = 0; unfold Sp.Tree.ontoC; rw [hq]
    clear hq
    simp only [Option.map_none, ptrO, ptr]
    go_enter Tryz.func55, Tryz.ntmps55
    go_wp2
    go_ret
    rw [HC.out]
    exact ⟨rfl, Below.refl _ _⟩
  | some j =>
    have HQ := Lib.hid (find_idOf HOK.out hq)
    have HC : Hid (t.ontoC i q = if t.isDir j = true ∧ t.isDir i = false then 102 else if t.isDir j = false ∧ t.isDir i = true then 103 else if t.isDir j = true ∧ t.kidsL q ≠ [] then 104 else 0) := by
      show t.ontoC i q = _; unfold Sp.Tree.ontoC; rw [hq]
    clear hq
    simp only [Option.map_some, ptrO, ptr]
    cases hi : t.isDir i with
    | true =>
      have c1 := HR.out.dirCell HP.out hi
      cases hj : t.isDir j with
      | true =>
        have c2 := HR.out.dirCell HQ.out hj
        obtain ⟨_, lj, hlj, _⟩ := HR.out.dir j _ HQ.out hj
        have HLen := Lib.hid (HR.out.len HOK.out HQ.out hj hlj)
        have hlen := run_len_ptr (P := Tryz.prog) (ty := 3) len0 hlj
        obtain ⟨n, hn⟩ : ∃ n, lj.length = n := ⟨_, rfl⟩
        have HN := Lib.hid hn
        have hnb : n ≤ 1000000 := by rw [← hn, HLen.out]; exact HK.out _
        rw [hn] at hlen
        rw [hi, hj] at HC
        clear hi hj hn hlj
        by_cases hn0 : n = 0
        · have HKE : Hid (t.kidsL q = []) := List.length_eq_zero_iff.1 (by rw [← HLen.out, HN.out]; exact hn0)
          subst hn0
          go_enter Tryz.func55, Tryz.ntmps55
          go_wp2
          go_ret
          rw [HC.out, HKE.out]
          exact ⟨by simp, Below.refl _ _⟩
        · have HKE : Hid (t.kidsL q ≠ []) := fun e => by
            have h1 := HLen.out
            rw [e, HN.out] at h1
            exact hn0 h1
          have hpos : 0 < n := by omega
          clear hn0
          go_enter Tryz.func55, Tryz.ntmps55
          go_wp2
          go_ret
          rw [HC.out]
          exact ⟨by simp [HKE.out], Below.refl _ _⟩
      | false =>
        have c2 := HR.out.fileCell HOK.out HQ.out hj
        rw [hi, hj] at HC
        clear hi hj
        go_enter Tryz.func55, Tryz.ntmps55
        go_wp2
        go_ret
        rw [HC.out]
        exact ⟨by simp, Below.refl _ _⟩
    | false =>
      have c1 := HR.out.fileCell HOK.out HP.out hi
      cases hj : t.isDir j with
      | true =>
        have c2 := HR.out.dirCell HQ.out hj
        rw [hi, hj] at HC
        clear hi hj
        go_enter Tryz.func55, Tryz.ntmps55
        go_wp2
        go_ret
        rw [HC.out]
        exact ⟨by simp, Below.refl _ _⟩
      | false =>
        have c2 := HR.out.fileCell HOK.out HQ.out hj
        rw [hi, hj] at HC
        clear hi hj
        go_enter Tryz.func55, Tryz.ntmps55
        go_wp2
        go_ret
        rw [HC.out]
        exact ⟨by simp, Below.refl _ _⟩
end
end Go.Proofs.YtcgpmnlondnbhaaGreatDoor

namespace Go.Proofs.YtcgpmnlondnbhaaGreatDoor
open Go Go.RowKit Txt Sp

theorem last_split {p : ByteArray} {l : List ByteArray} {x : ByteArray} (h : lastN p = (l, x, 0)) : splitN p = (full p, 0) := by
  rcases lastN_cases p with ⟨c, h1, h2⟩ | ⟨l', x', h1, h2⟩
  · rw [h] at h1
    have : (0 : Int) = c := congrArg (fun x : List ByteArray × ByteArray × Int => x.2.2) h1
    exact absurd this.symm (beq_eq_false_iff_ne.1 h2)
  · unfold full; rw [h2]
theorem last_split0 {p : ByteArray} (h : (lastN p).2.2 = 0) : splitN p = (full p, 0) :=
  last_split (l := (lastN p).1) (x := (lastN p).2.1) (by rw [← h])
theorem under_full {p q : ByteArray} (hp : (lastN p).2.2 = 0) (hq : (lastN q).2.2 = 0) : underN p q = (decide (full p <+: full q), 0) := by
  rw [underN_ok (last_split0 hp) (last_split0 hq)]
  congr 1
  exact decide_eq_decide.2 (lcp_full _ _)
theorem dirC_last {t : Sp.Tree} {p : ByteArray} (h : t.dirC p = 0) : (lastN p).2.2 = 0 := by
  unfold Sp.Tree.dirC at h
  split at h
  · assumption
  · rename_i h1; exact absurd h h1

section
variable {w w3 w4 w5 : World} {B : Nat} {t : Sp.Tree} {φ μ : Nat → Nat}
theorem moved_rep (hR : Rep w3 B t φ μ) (hok : t.Ok) {lp l : List ByteArray} {x y : ByteArray} {a i k : Nat} (ha : t.idOf lp = some a) (had : t.isDir a = true) (hf : t.find (lp ++ [x]) = some i) (hl : t.idOf l = some k) (hd : t.isDir k = true) (hy : nameB y = true)
    (hq : t.find (l ++ [y]) = none) (hloop : t.isDir i = true → ¬ lp ++ [x] <+: l ++ [y])
    {la lk : List (ByteArray × Nat)} (hla : MapAt w3 (μ a) la) (hlk : MapAt w4 (μ k) lk) {d : ByteArray} {n : Nat} {m : Option Nat} (hwas : w3.heap[φ i]? = some (thingO d n m)) (hn : 1 ≤ n) {o4 o5 : Obj}
    (h4 : IsMap o4 (delM la x)) (m4 : w4.heap[μ a]? = some o4) (T4 : Turn (fun b => b = μ a ∨ b = φ i) w3 w4)
    (h5 : IsMap o5 (setM lk y (φ i))) (m5 : w5.heap[μ k]? = some o5) (b5 : w5.heap[φ i]? = some (thingO d (n - 1 + 1) m)) (T5 : Turn (fun b => b = μ k ∨ b = φ i) w4 w5) :
    Rep w5 B (t.move (t.isDir i) (lp ++ [x]) (l ++ [y])) φ μ ∧ Turn (Rep.dom B t φ μ) w3 w5 := by
  have hah := has_idOf hok ha
  have hkh := has_idOf hok hl
  have hih := has_idOf hok (find_idOf hok hf)
  refine ⟨hR.move hok ha had hf hl hd hy hq hloop (fun b o ho h1 h2 => ?_) (fun j lj hj hdj hjo hlj => ?_), T4.trans T5 (fun b _ h => ?_) (fun b _ h => ?_)⟩
  · by_cases hb : b = φ i
    · subst hb
      rw [hwas] at ho
      cases ho
      rw [b5, Nat.sub_add_cancel hn]
    · exact T5.heap (T4.heap ho (fun h => h.elim h1 hb)) (fun h => h.elim h2 hb)
  · have hia : φ i ≠ μ a := hR.thing_ne_map hok hih hah had
    have hik : φ i ≠ μ k := hR.thing_ne_map hok hih hkh hd
    by_cases hja : j = a
    · subst hja
      have e := hlj.uniq hla
      subst e
      by_cases hjk : j = k
      · subst hjk
        have e := hlk.uniq ⟨o4, m4, h4⟩
        subst e
        unfold moveM
        rw [if_pos rfl, if_pos rfl]
        exact ⟨o5, m5, h5⟩
      · unfold moveM
        rw [if_pos rfl, if_neg hjk]
        exact ⟨o4, T5.heap m4 (fun h => h.elim (fun e => hjk (hR.injm _ _ hah hkh had hd e)) (fun e => hia e.symm)), h4⟩
    · have hjk : j = k := hjo.resolve_left hja
      subst hjk
      have h := hlj.same (w' := w4) (fun o ho => T4.heap ho (fun h => h.elim (fun e => hja (hR.injm _ _ hkh hah hd had e)) (fun e => hik e.symm)))
      have e := h.uniq hlk
      subst e
      unfold moveM
      rw [if_neg hja, if_pos rfl]
      exact ⟨o5, m5, h5⟩
  · rcases h with rfl | rfl
    · exact dom_map hah had
    · exact dom_thing hih
  · rcases h with rfl | rfl
    · exact dom_map hkh hd
    · exact dom_thing hih
/-- What put asks for, once the thing was taken away elsewhere. -/
theorem put_ready (hR : Rep w3 B t φ μ) (hok : t.Ok) {lp l : List ByteArray} {x y : ByteArray} {a i k : Nat} (ha : t.idOf lp = some a) (had : t.isDir a = true) (hf : t.find (lp ++ [x]) = some i) (hl : t.idOf l = some k) (hd : t.isDir k = true)
    (hloop : t.isDir i = true → ¬ lp ++ [x] <+: l ++ [y]) {o4 : Obj} {la : List (ByteArray × Nat)} (h4 : IsMap o4 (delM la x)) (m4 : w4.heap[μ a]? = some o4) (T4 : Turn (fun b => b = μ a ∨ b = φ i) w3 w4) :
    (∃ lk, MapAt w4 (μ k) lk) ∧ ∃ dd dn, w4.heap[φ k]? = some (thingO dd dn (some (μ k))) := by
  have hah := has_idOf hok ha
  have hkh := has_idOf hok hl
  have hi := find_idOf hok hf
  have hih := has_idOf hok hi
  have hki : k ≠ i := by
    rintro rfl
    have := dir_path hok hi hl hd
    exact hloop hd (by rw [this]; exact List.prefix_append _ _)
  obtain ⟨h1, lk, h2, _⟩ := hR.dir k l hl hd
  refine ⟨?_, _, _, T4.heap h1 (fun h => h.elim (fun e => hR.thing_ne_map hok hkh hah had e) (fun e => hki (hR.inj _ _ hkh hih e)))⟩
  by_cases hka : k = a
  · subst hka
    exact ⟨_, o4, m4, h4⟩
  · exact ⟨lk, h2.same (fun o ho => T4.heap ho (fun h => h.elim (fun e => hka (hR.injm _ _ hkh hah hd had e)) (fun e => hR.thing_ne_map hok hih hkh hd e.symm)))⟩
theorem Rep.lt_thing (hR : Rep w B t φ μ) (hok : t.Ok) {i : Nat} (h : t.has i) : φ i < w.heap.size := let ⟨_, _, h⟩ := hR.thing hok h; (Array.getElem?_eq_some_iff.1 h).1
theorem Rep.lt_map (hR : Rep w B t φ μ) (hok : t.Ok) {i : Nat} (h : t.has i) (hd : t.isDir i = true) : μ i < w.heap.size := let ⟨_, _, h⟩ := hR.map hok h hd; (Array.getElem?_eq_some_iff.1 h).1
end

/-- What stands in another tree once a name is forgotten. -/
theorem forget_at {t : Sp.Tree} (hok : t.Ok) {q : List ByteArray} {j : Nat} (hq : t.find q = some j) (hbelow : ∀ s k, (q ++ [s], k) ∉ t.names) {l : List ByteArray} {x : ByteArray} {a i : Nat} (hl : t.idOf l = some a) (hf : t.find (l ++ [x]) = some i) (hne : l ++ [x] ≠ q) :
    (t.forget q).idOf l = some a ∧ (t.forget q).find (l ++ [x]) = some i := by
  refine ⟨?_, by rw [find_forget hok hq, if_neg hne]; exact hf⟩
  have hlq : l ≠ q := fun e => hbelow x i (by rw [← e]; exact (find_mem hok).1 hf)
  unfold Sp.Tree.idOf at hl ⊢
  split
  · rename_i e; rw [if_pos e] at hl; exact hl
  · rename_i e; rw [if_neg e] at hl; rw [find_forget hok hq, if_neg hlq]; exact hl
theorem forget_up {t : Sp.Tree} (hok : t.Ok) {l : List ByteArray} {y : ByteArray} {j k : Nat} (hq : t.find (l ++ [y]) = some j) (hl : t.idOf l = some k) : (t.forget (l ++ [y])).idOf l = some k := by
  have hlq : l ≠ l ++ [y] := fun e => by have := congrArg List.length e; simp at this
  unfold Sp.Tree.idOf at hl ⊢
  split
  · rename_i e; rw [if_pos e] at hl; exact hl
  · rename_i e; rw [if_neg e] at hl; rw [find_forget hok hq, if_neg hlq]; exact hl
theorem onto_below {t : Sp.Tree} (hok : t.Ok) {q : List ByteArray} {i j : Nat} (hq : t.find q = some j) (h0 : t.ontoC i q = 0) : ∀ s k, (q ++ [s], k) ∉ t.names := by
  refine nothing_below hok hq (fun hd => ?_)
  unfold Sp.Tree.ontoC at h0
  rw [hq] at h0
  simp only at h0
  split at h0
  · cases h0
  · split at h0
    · cases h0
    · split at h0
      · cases h0
      · rename_i h1
        have := not_and.1 h1 hd
        simpa using this
end Go.Proofs.YtcgpmnlondnbhaaGreatDoor

namespace Go.Proofs.YtcgpmnlondnbhaaGreatDoor
open Go Go.RowKit Txt Sp

theorem pt_thing : Tryz.prog.underlying 54 = some (.pointer 57) := by kernel_rfl
theorem info_size : (Tryz.prog.info? 57).map (fun j => j.size != 0) = some true := by kernel_rfl
theorem info_thing : ∃ j, Tryz.prog.info? 57 = some j ∧ j.size ≠ 0 := by
  obtain ⟨j, h1, h2⟩ := Option.map_eq_some_iff.1 info_size
  exact ⟨j, h1, by simpa using h2⟩
theorem eql_none (w : World) (a : Addr) : (binOp .eql 54 (.pointer none) (.pointer (some a))).run Tryz.prog w = .ok (.bool false) w := by
  have h : ∀ d : Nat, (Op.equalIn (d + 1) 54 (.pointer none) (.pointer (some a))).run Tryz.prog w = .ok false w := fun d => by
    simp [Op.equalIn, run_underlying pt_thing]
  simp only [binOp]
  simp [Op.equal, Op.maxDepth, h 9999]
theorem eql_same (w : World) (a : Addr) : (binOp .eql 54 (.pointer (some a)) (.pointer (some a))).run Tryz.prog w = .ok (.bool true) w :=
  let ⟨_, h, _⟩ := info_thing
  run_eql_ptr_same w a pt_thing h
theorem eql_other {w : World} {a b : Nat} {da db : ByteArray} {na nb : Nat} {ma mb : Option Nat} (ha : w.heap[a]? = some (thingO da na ma)) (hb : w.heap[b]? = some (thingO db nb mb)) (hne : a ≠ b) :
    (binOp .eql 54 (.pointer (some ⟨a, 0, none⟩)) (.pointer (some ⟨b, 0, none⟩))).run Tryz.prog w = .ok (.bool false) w :=
  let ⟨_, h, h0⟩ := info_thing
  run_eql_ptr_other w pt_thing h h0 (fun e => hne (congrArg Addr.block e)) ha hb

section
set_option maxHeartbeats 2000000





theorem rename_any {w : World} {B : Nat} {t : Sp.Tree} {φ μ : Nat → Nat} (hR : Rep w B t φ μ) (hok : t.Ok) (p tt : ByteArray) (hm : MaxOk w) (hs : p.size ≤ 4000000000) (hs2 : tt.size ≤ 4000000000) (hlinks : ∀ i, t.links i ≤ 1000000) (hk : ∀ q, (t.kidsL q).length ≤ 1000000) :
    Calls Tryz.prog 31 #[ptr B, .string p, .string tt] w (OpPost (t.rename p tt) w B t φ μ) := by
  have m1 := fun (r : Option Nat) (w : World) => run_eql_map_nil (P := Tryz.prog) w 55 _ _ r ht_map
  have m2 := fun (r : Option Nat) (w : World) => run_neq_map_nil (P := Tryz.prog) w 55 _ _ r ht_map
  have p1 := eql_none
  have p2 := eql_same
  have HR := Lib.hid hR
  have HOK := Lib.hid hok
  have HLk := Lib.hid hlinks
  have HK := Lib.hid hk
  obtain ⟨c, hc⟩ : ∃ c, t.dirC p = c := ⟨_, rfl⟩
  have HC := Lib.hid hc
  clear hR hok hlinks hk
  by_cases h0 : c = 0
  rotate_left
  · have HM := Lib.hid (rename_err (tt := tt) hc h0)
    have hc0 : (c == 0) = false := beq_eq_false_iff_ne.2 h0
    clear hc h0
    go_enter Tryz.func31, Tryz.ntmps31
    go_wp2_with fail
    refine (place_any HR.out HOK.out p hm hs).mono ?_
    rintro e w1 ⟨⟨v, s, rfl, hpl⟩, hb⟩
    rw [HC.out]
    have HB := Lib.hid hb
    clear hpl hb
    go_wp2
    go_ret
    exact OpPost.same HM.out HR.out (HB.out.alloc HB.out.size _)
  subst h0
  clear hc
  obtain ⟨r, hr⟩ : ∃ r, t.find (full p) = r := ⟨_, rfl⟩
  have HF := Lib.hid hr
  cases r with
  | none =>
    have HM := Lib.hid (rename_none (tt := tt) HC.out hr)
    clear hr
    go_enter Tryz.func31, Tryz.ntmps31
    go_wp2_with fail
    refine (place_any HR.out HOK.out p hm hs).mono ?_
    rintro e w1 ⟨⟨v, s, rfl, hpl⟩, hb⟩
    obtain ⟨l, a, h1, h2, h3, h4, h5, rfl⟩ := hpl HC.out
    rw [HC.out]
    have HB1 := Lib.hid hb
    have HR1 := Lib.hid (HR.out.below hb)
    have H2 := Lib.hid h2
    have H3 := Lib.hid h3
    have H4 := Lib.hid h4
    clear hpl hb h1 h2 h3 h4 h5
    go_wp2_with fail
    refine (is_any (HR1.out.below ((Below.refl _ _).alloc (Nat.le_refl _) _)) H3.out H4.out s).mono ?_
    rintro e w2 ⟨rfl, hb2⟩
    have hb12 := below_next ((Below.refl w1.heap.size w1).alloc (Nat.le_refl _) _) hb2
    have HP2 : Hid (w2.heap[w1.heap.size]? = some (.cells #[ptr (φ a), .string s] 90 (0, 0))) := heap_below hb2 _ _ (heap_alloc_new w1 _)
    have HB2 := Lib.hid (below_next HB1.out hb12)
    have HR2 := Lib.hid (HR.out.below HB2.out)
    have hm2 := hm.below HB2.out
    rw [← H2.out, HF.out]
    clear hb2 hb12
    simp only [Option.map_none, ptrO]
    go_wp2
    go_ret
    exact OpPost.same HM.out HR.out HB2.out
  | some i =>
    have HI := Lib.hid (find_idOf HOK.out hr)
    clear hr
    obtain ⟨lt, xt, ct, hlt⟩ : ∃ lt xt ct, lastN tt = (lt, xt, ct) := ⟨_, _, _, rfl⟩
    have HL := Lib.hid hlt
    have HL2 : Hid ((lastN tt).2.2 = ct) := by show (lastN tt).2.2 = ct; rw [hlt]
    clear hlt
    by_cases h0 : ct = 0
    rotate_left
    · have HM := Lib.hid (rename_err2 HC.out HF.out HL2.out h0)
      have hc0 : (ct == 0) = false := beq_eq_false_iff_ne.2 h0
      clear h0
      go_enter Tryz.func31, Tryz.ntmps31
      go_wp2_with fail
      refine (place_any HR.out HOK.out p hm hs).mono ?_
      rintro e w1 ⟨⟨v, s, rfl, hpl⟩, hb⟩
      obtain ⟨l, a, h1, h2, h3, h4, h5, rfl⟩ := hpl HC.out
      rw [HC.out]
      have HB1 := Lib.hid hb
      have HR1 := Lib.hid (HR.out.below hb)
      have H2 := Lib.hid h2
      have H3 := Lib.hid h3
      have H4 := Lib.hid h4
      clear hpl hb h1 h2 h3 h4 h5
      go_wp2_with fail
      refine (is_any (HR1.out.below ((Below.refl _ _).alloc (Nat.le_refl _) _)) H3.out H4.out s).mono ?_
      rintro e w2 ⟨rfl, hb2⟩
      have hb12 := below_next ((Below.refl w1.heap.size w1).alloc (Nat.le_refl _) _) hb2
      have HP2 : Hid (w2.heap[w1.heap.size]? = some (.cells #[ptr (φ a), .string s] 90 (0, 0))) := heap_below hb2 _ _ (heap_alloc_new w1 _)
      have HB2 := Lib.hid (below_next HB1.out hb12)
      have HR2 := Lib.hid (HR.out.below HB2.out)
      have hm2 := hm.below HB2.out
      rw [← H2.out, HF.out]
      clear hb2 hb12
      simp only [Option.map_some, ptrO, ptr]
      go_wp2_with fail
      refine (last_triple HL _ hm2 hs2).mono ?_
      rintro e w3 ⟨ad3, n3, rfl, _, hb⟩
      have HB3 := Lib.hid (below_next HB2.out hb)
      have HP3 := Lib.hid (heap_below hb _ _ HP2.out)
      have HR3 := Lib.hid (HR.out.below HB3.out)
      have hm3 := hm.below HB3.out
      clear hb
      go_wp2
      go_ret
      exact OpPost.same HM.out HR.out HB3.out
    subst h0
    obtain ⟨n, hn⟩ : ∃ n : Bool, decide (full p <+: full tt) = n := ⟨_, rfl⟩
    have HN := Lib.hid hn
    have HU : Hid (underN p tt = (n, 0)) := by show underN p tt = (n, 0); rw [under_full (dirC_last HC.out) HL2.out, hn]
    clear hn
    by_cases hloop : t.isDir i = true ∧ n = true ∧ p ≠ tt
    · obtain ⟨hd, rfl, hne⟩ := hloop
      have HM := Lib.hid (rename_loop HC.out HF.out HL2.out ⟨hd, of_decide_eq_true HN.out, hne⟩)
      have HD := Lib.hid hd
      have q' : (p.toList == tt.toList) = false := (text_eq p tt).trans (decide_eq_false hne)
      clear hd hne
      go_enter Tryz.func31, Tryz.ntmps31
      go_wp2_with fail
      refine (place_any HR.out HOK.out p hm hs).mono ?_
      rintro e w1 ⟨⟨v, s, rfl, hpl⟩, hb⟩
      obtain ⟨l, a, h1, h2, h3, h4, h5, rfl⟩ := hpl HC.out
      rw [HC.out]
      have HB1 := Lib.hid hb
      have HR1 := Lib.hid (HR.out.below hb)
      have H2 := Lib.hid h2
      have H3 := Lib.hid h3
      have H4 := Lib.hid h4
      clear hpl hb h1 h2 h3 h4 h5
      go_wp2_with fail
      refine (is_any (HR1.out.below ((Below.refl _ _).alloc (Nat.le_refl _) _)) H3.out H4.out s).mono ?_
      rintro e w2 ⟨rfl, hb2⟩
      have hb12 := below_next ((Below.refl w1.heap.size w1).alloc (Nat.le_refl _) _) hb2
      have HP2 : Hid (w2.heap[w1.heap.size]? = some (.cells #[ptr (φ a), .string s] 90 (0, 0))) := heap_below hb2 _ _ (heap_alloc_new w1 _)
      have HB2 := Lib.hid (below_next HB1.out hb12)
      have HR2 := Lib.hid (HR.out.below HB2.out)
      have hm2 := hm.below HB2.out
      rw [← H2.out, HF.out]
      clear hb2 hb12
      simp only [Option.map_some, ptrO, ptr]
      go_wp2_with fail
      refine (last_triple HL _ hm2 hs2).mono ?_
      rintro e w3 ⟨ad3, n3, rfl, _, hb⟩
      have HB3 := Lib.hid (below_next HB2.out hb)
      have HP3 := Lib.hid (heap_below hb _ _ HP2.out)
      have HR3 := Lib.hid (HR.out.below HB3.out)
      have hm3 := hm.below HB3.out
      clear hb
      go_wp2_with fail
      refine (under_pair HU _ hm3 hs hs2).mono ?_
      rintro e w4 ⟨rfl, hb⟩
      have HB4 := Lib.hid (below_next HB3.out hb)
      have HP4 := Lib.hid (heap_below hb _ _ HP3.out)
      have HR4 := Lib.hid (HR.out.below HB4.out)
      have hm4 := hm.below HB4.out
      clear hb
      have c2 := HR4.out.dirCell HI.out HD.out
      go_wp2
      go_ret
      exact OpPost.same HM.out HR.out HB4.out
    have HNL : Hid (¬ (t.isDir i = true ∧ full p <+: full tt ∧ p ≠ tt)) := fun h => hloop ⟨h.1, by rw [← HN.out]; exact decide_eq_true h.2.1, h.2.2⟩
    obtain ⟨c, hc⟩ : ∃ c, t.dirC tt = c := ⟨_, rfl⟩
    have HC2 := Lib.hid hc
    by_cases h0 : c = 0
    rotate_left
    · have HM := Lib.hid (rename_err3 HC.out HF.out HL2.out HNL.out hc h0)
      have hc0 : (c == 0) = false := beq_eq_false_iff_ne.2 h0
      have hne : p ≠ tt := fun e => h0 (by rw [← hc, ← e]; exact HC.out)
      have hsk : Hid (n = false ∨ t.isDir i = false) := by
        cases n with
        | false => exact Or.inl rfl
        | true => exact Or.inr (by cases hd : t.isDir i with | false => rfl | true => exact absurd ⟨hd, rfl, hne⟩ hloop)
      clear hc h0 hloop hne
      rcases hsk.out with rfl | hd
      · go_enter Tryz.func31, Tryz.ntmps31
        go_wp2_with fail
        refine (place_any HR.out HOK.out p hm hs).mono ?_
        rintro e w1 ⟨⟨v, s, rfl, hpl⟩, hb⟩
        obtain ⟨l, a, h1, h2, h3, h4, h5, rfl⟩ := hpl HC.out
        rw [HC.out]
        have HB1 := Lib.hid hb
        have HR1 := Lib.hid (HR.out.below hb)
        have H2 := Lib.hid h2
        have H3 := Lib.hid h3
        have H4 := Lib.hid h4
        clear hpl hb h1 h2 h3 h4 h5
        go_wp2_with fail
        refine (is_any (HR1.out.below ((Below.refl _ _).alloc (Nat.le_refl _) _)) H3.out H4.out s).mono ?_
        rintro e w2 ⟨rfl, hb2⟩
        have hb12 := below_next ((Below.refl w1.heap.size w1).alloc (Nat.le_refl _) _) hb2
        have HP2 : Hid (w2.heap[w1.heap.size]? = some (.cells #[ptr (φ a), .string s] 90 (0, 0))) := heap_below hb2 _ _ (heap_alloc_new w1 _)
        have HB2 := Lib.hid (below_next HB1.out hb12)
        have HR2 := Lib.hid (HR.out.below HB2.out)
        have hm2 := hm.below HB2.out
        rw [← H2.out, HF.out]
        clear hb2 hb12
        simp only [Option.map_some, ptrO, ptr]
        go_wp2_with fail
        refine (last_triple HL _ hm2 hs2).mono ?_
        rintro e w3 ⟨ad3, n3, rfl, _, hb⟩
        have HB3 := Lib.hid (below_next HB2.out hb)
        have HP3 := Lib.hid (heap_below hb _ _ HP2.out)
        have HR3 := Lib.hid (HR.out.below HB3.out)
        have hm3 := hm.below HB3.out
        clear hb
        go_wp2_with fail
        refine (under_pair HU _ hm3 hs hs2).mono ?_
        rintro e w4 ⟨rfl, hb⟩
        have HB4 := Lib.hid (below_next HB3.out hb)
        have HP4 := Lib.hid (heap_below hb _ _ HP3.out)
        have HR4 := Lib.hid (HR.out.below HB4.out)
        have hm4 := hm.below HB4.out
        clear hb
        go_wp2_with fail
        refine (place_any HR4.out HOK.out tt hm4 hs2).mono ?_
        rintro e w5 ⟨⟨v, s2, rfl, hpl⟩, hb⟩
        rw [HC2.out]
        have HB5 := Lib.hid (below_next HB4.out hb)
        clear hpl hb
        go_wp2
        go_ret
        exact OpPost.same HM.out HR.out (HB5.out.alloc HB5.out.size _)
      · have HD := Lib.hid hd
        clear hd
        go_enter Tryz.func31, Tryz.ntmps31
        go_wp2_with fail
        refine (place_any HR.out HOK.out p hm hs).mono ?_
        rintro e w1 ⟨⟨v, s, rfl, hpl⟩, hb⟩
        obtain ⟨l, a, h1, h2, h3, h4, h5, rfl⟩ := hpl HC.out
        rw [HC.out]
        have HB1 := Lib.hid hb
        have HR1 := Lib.hid (HR.out.below hb)
        have H2 := Lib.hid h2
        have H3 := Lib.hid h3
        have H4 := Lib.hid h4
        clear hpl hb h1 h2 h3 h4 h5
        go_wp2_with fail
        refine (is_any (HR1.out.below ((Below.refl _ _).alloc (Nat.le_refl _) _)) H3.out H4.out s).mono ?_
        rintro e w2 ⟨rfl, hb2⟩
        have hb12 := below_next ((Below.refl w1.heap.size w1).alloc (Nat.le_refl _) _) hb2
        have HP2 : Hid (w2.heap[w1.heap.size]? = some (.cells #[ptr (φ a), .string s] 90 (0, 0))) := heap_below hb2 _ _ (heap_alloc_new w1 _)
        have HB2 := Lib.hid (below_next HB1.out hb12)
        have HR2 := Lib.hid (HR.out.below HB2.out)
        have hm2 := hm.below HB2.out
        rw [← H2.out, HF.out]
        clear hb2 hb12
        simp only [Option.map_some, ptrO, ptr]
        go_wp2_with fail
        refine (last_triple HL _ hm2 hs2).mono ?_
        rintro e w3 ⟨ad3, n3, rfl, _, hb⟩
        have HB3 := Lib.hid (below_next HB2.out hb)
        have HP3 := Lib.hid (heap_below hb _ _ HP2.out)
        have HR3 := Lib.hid (HR.out.below HB3.out)
        have hm3 := hm.below HB3.out
        clear hb
        go_wp2_with fail
        refine (under_pair HU _ hm3 hs hs2).mono ?_
        rintro e w4 ⟨rfl, hb⟩
        have HB4 := Lib.hid (below_next HB3.out hb)
        have HP4 := Lib.hid (heap_below hb _ _ HP3.out)
        have HR4 := Lib.hid (HR.out.below HB4.out)
        have hm4 := hm.below HB4.out
        clear hb
        have c2 := HR4.out.fileCell HOK.out HI.out HD.out
        cases n <;> (
            go_wp2_with fail
            refine (place_any HR4.out HOK.out tt hm4 hs2).mono ?_
            rintro e w5 ⟨⟨v, s2, rfl, hpl⟩, hb⟩
            rw [HC2.out]
            have HB5 := Lib.hid (below_next HB4.out hb)
            clear hpl hb
            go_wp2
            go_ret
            exact OpPost.same HM.out HR.out (HB5.out.alloc HB5.out.size _))
    subst h0
    clear hc
    obtain ⟨r, hr⟩ : ∃ r, t.find (full tt) = r := ⟨_, rfl⟩
    have HG := Lib.hid hr
    cases r with
    | none =>
      have HM := Lib.hid (rename_new HC.out HF.out HL2.out HNL.out HC2.out hr)
      have hne : p ≠ tt := fun e => by rw [← e, HF.out] at hr; cases hr
      have hsk : Hid (n = false ∨ t.isDir i = false) := by
        cases n with
        | false => exact Or.inl rfl
        | true => exact Or.inr (by cases hd : t.isDir i with | false => rfl | true => exact absurd ⟨hd, rfl, hne⟩ hloop)
      have HNP : Hid (t.isDir i = true → ¬ full p <+: full tt) := fun h1 h2 => HNL.out ⟨h1, h2, hne⟩
      clear hr hloop hne
      rcases hsk.out with rfl | hd
      · go_enter Tryz.func31, Tryz.ntmps31
        go_wp2_with fail
        refine (place_any HR.out HOK.out p hm hs).mono ?_
        rintro e w1 ⟨⟨v, s, rfl, hpl⟩, hb⟩
        obtain ⟨l, a, h1, h2, h3, h4, h5, rfl⟩ := hpl HC.out
        rw [HC.out]
        have HB1 := Lib.hid hb
        have HR1 := Lib.hid (HR.out.below hb)
        have H2 := Lib.hid h2
        have H3 := Lib.hid h3
        have H4 := Lib.hid h4
        clear hpl hb h1 h2 h3 h4 h5
        go_wp2_with fail
        refine (is_any (HR1.out.below ((Below.refl _ _).alloc (Nat.le_refl _) _)) H3.out H4.out s).mono ?_
        rintro e w2 ⟨rfl, hb2⟩
        have hb12 := below_next ((Below.refl w1.heap.size w1).alloc (Nat.le_refl _) _) hb2
        have HP2 : Hid (w2.heap[w1.heap.size]? = some (.cells #[ptr (φ a), .string s] 90 (0, 0))) := heap_below hb2 _ _ (heap_alloc_new w1 _)
        have HB2 := Lib.hid (below_next HB1.out hb12)
        have HR2 := Lib.hid (HR.out.below HB2.out)
        have hm2 := hm.below HB2.out
        rw [← H2.out, HF.out]
        clear hb2 hb12
        simp only [Option.map_some, ptrO, ptr]
        go_wp2_with fail
        refine (last_triple HL _ hm2 hs2).mono ?_
        rintro e w3 ⟨ad3, n3, rfl, _, hb⟩
        have HB3 := Lib.hid (below_next HB2.out hb)
        have HP3 := Lib.hid (heap_below hb _ _ HP2.out)
        have HR3 := Lib.hid (HR.out.below HB3.out)
        have hm3 := hm.below HB3.out
        clear hb
        go_wp2_with fail
        refine (under_pair HU _ hm3 hs hs2).mono ?_
        rintro e w4 ⟨rfl, hb⟩
        have HB4 := Lib.hid (below_next HB3.out hb)
        have HP4 := Lib.hid (heap_below hb _ _ HP3.out)
        have HR4 := Lib.hid (HR.out.below HB4.out)
        have hm4 := hm.below HB4.out
        clear hb
        go_wp2_with fail
        refine (place_any HR4.out HOK.out tt hm4 hs2).mono ?_
        rintro e w5 ⟨⟨v, s2, rfl, hpl⟩, hb⟩
        obtain ⟨l2, k, h1, h2, h3, h4, h5, rfl⟩ := hpl HC2.out
        rw [HC2.out]
        have HB5 := Lib.hid (below_next HB4.out hb)
        have HR5 := Lib.hid (HR.out.below HB5.out)
        have HP5 := Lib.hid (heap_below hb _ _ HP4.out)
        have G2 := Lib.hid h2
        have G3 := Lib.hid h3
        have G4 := Lib.hid h4
        have G5 := Lib.hid h5
        clear hpl hb h1 h2 h3 h4 h5
        go_wp2_with fail
        refine (is_any (HR5.out.below ((Below.refl _ _).alloc (Nat.le_refl _) _)) G3.out G4.out s2).mono ?_
        rintro e w6 ⟨rfl, hb2⟩
        have hb12 := below_next ((Below.refl w5.heap.size w5).alloc (Nat.le_refl _) _) hb2
        have HQ6 : Hid (w6.heap[w5.heap.size]? = some (.cells #[ptr (φ k), .string s2] 90 (0, 0))) := heap_below hb2 _ _ (heap_alloc_new w5 _)
        have HP6 := Lib.hid (heap_below hb12 _ _ HP5.out)
        have HB6 := Lib.hid (below_next HB5.out hb12)
        have HR6 := Lib.hid (HR.out.below HB6.out)
        have hm6 := hm.below HB6.out
        rw [← G2.out]
        clear hb2 hb12
        rw [HG.out]
        simp only [Option.map_none, ptrO]
        go_wp2_with fail
        have hon := onto_any HR6.out HOK.out HI.out (full tt) HK.out
        rw [HG.out] at hon
        refine hon.mono ?_
        rintro e wz ⟨rfl, hb⟩
        have HOC : Hid (t.ontoC i (full tt) = 0) := by show t.ontoC i (full tt) = 0; unfold Sp.Tree.ontoC; rw [HG.out]
        rw [HOC.out]
        have HBz := Lib.hid (below_next HB6.out hb)
        have HRz := Lib.hid (HR.out.below HBz.out)
        have HOKz := HOK
        have A3 := H3
        have A4 := H4
        have AF : Hid (t.find (l ++ [s]) = some i) := by show t.find (l ++ [s]) = some i; rw [← H2.out]; exact HF.out
        have K3 := G3
        have K4 := G4
        have KF : Hid (t.find (l2 ++ [s2]) = none) := by show t.find (l2 ++ [s2]) = none; rw [← G2.out]; exact HG.out
        have KL : Hid (t.isDir i = true → ¬ l ++ [s] <+: l2 ++ [s2]) := by
          show t.isDir i = true → ¬ l ++ [s] <+: l2 ++ [s2]
          rw [← H2.out, ← G2.out]; exact HNP.out
        have HLz := Lib.hid (HLk.out i)
        have HPz := Lib.hid (heap_below hb _ _ HP6.out)
        have HQz := Lib.hid (heap_below hb _ _ HQ6.out)
        have BND : Hid (φ i < w.heap.size ∧ μ a < w.heap.size) := ⟨HR.out.lt_thing HOK.out (has_idOf HOK.out HI.out), HR.out.lt_map HOK.out (has_idOf HOK.out H3.out) H4.out⟩
        have HTz : Hid (Turn (Rep.dom B t φ μ) w wz) := Turn.of_below HBz.out
        have HDz : Hid (∀ b, Rep.dom B t φ μ b → Rep.dom B t φ μ b) := fun _ h => h
        have HMz : Hid (t.rename p tt = (t.move (t.isDir i) (l ++ [s]) (l2 ++ [s2]), 0)) := by
          show t.rename p tt = (t.move (t.isDir i) (l ++ [s]) (l2 ++ [s2]), 0)
          rw [← H2.out, ← G2.out]; exact HM.out
        clear hb
        have c0 : wz.cell? ⟨w1.heap.size, 0, none⟩ = some (ptr (φ a)) := cell_of_heap HPz.out rfl
        have c1 : wz.cell? ⟨w1.heap.size, 1, none⟩ = some (.string s) := cell_of_heap HPz.out rfl
        unfold ptr at c0
        obtain ⟨hda, la, hla, _⟩ := HRz.out.dir a l A3.out A4.out
        have HDA := Lib.hid hda
        have HLA := Lib.hid hla
        have hget : Hid (getM la s = some (φ i)) := by
          show getM la s = some (φ i)
          rw [HRz.out.entries A3.out A4.out hla, AF.out]; rfl
        obtain ⟨di, mi, hti⟩ := HRz.out.thing HOKz.out (has_idOf HOKz.out (find_idOf HOKz.out AF.out))
        have HTi := Lib.hid hti
        clear hda hla hti
        go_wp2_with fail
        refine (away_any HDA.out HLA.out hget.out HTi.out HLz.out (links_pos HOKz.out AF.out)).mono ?_
        rintro e wy ⟨rfl, ⟨o4, ho4, hm4'⟩, hb4, hT4⟩
        obtain ⟨⟨lk, hlk⟩, dd, dn, hdk⟩ := put_ready HRz.out HOKz.out A3.out A4.out AF.out K3.out K4.out KL.out ho4 hm4' hT4
        have h15 : w.heap.size ≤ w5.heap.size := HB5.out.size
        have hQy : wy.heap[w5.heap.size]? = some (.cells #[ptr (φ k), .string s2] 90 (0, 0)) := hT4.heap HQz.out (by
          have := BND.out
          rintro (e | e) <;> omega)
        have d0 : wy.cell? ⟨w5.heap.size, 0, none⟩ = some (ptr (φ k)) := cell_of_heap hQy rfl
        have d1 : wy.cell? ⟨w5.heap.size, 1, none⟩ = some (.string s2) := cell_of_heap hQy rfl
        unfold ptr at d0
        have Hlk := Lib.hid hlk
        have Hdk := Lib.hid hdk
        have Ho4 := Lib.hid ho4
        have Hm4 := Lib.hid hm4'
        have Hb4 := Lib.hid hb4
        have HT4 := Lib.hid hT4
        clear hlk hdk ho4 hm4' hb4 hT4 hQy h15 c0 c1
        go_wp2_with fail
        refine (put_any Hdk.out Hlk.out Hb4.out (Nat.le_trans (Nat.sub_le _ _) HLz.out)).mono ?_
        rintro e wx ⟨rfl, ⟨o5, ho5, hm5⟩, hb5, hT5⟩
        go_wp2
        go_ret
        obtain ⟨h1, h2⟩ := moved_rep HRz.out HOKz.out A3.out A4.out AF.out K3.out K4.out G5.out KF.out KL.out HLA.out Hlk.out HTi.out (links_pos HOKz.out AF.out) Ho4.out Hm4.out HT4.out ho5 hm5 hb5 hT5
        unfold OpPost
        rw [HMz.out]
        exact ⟨rfl, h1, HTz.out.trans h2 (fun _ _ h => h) (fun b hb h => HDz.out b h), fun b h => HDz.out b h⟩
      · have HD := Lib.hid hd
        clear hd
        go_enter Tryz.func31, Tryz.ntmps31
        go_wp2_with fail
        refine (place_any HR.out HOK.out p hm hs).mono ?_
        rintro e w1 ⟨⟨v, s, rfl, hpl⟩, hb⟩
        obtain ⟨l, a, h1, h2, h3, h4, h5, rfl⟩ := hpl HC.out
        rw [HC.out]
        have HB1 := Lib.hid hb
        have HR1 := Lib.hid (HR.out.below hb)
        have H2 := Lib.hid h2
        have H3 := Lib.hid h3
        have H4 := Lib.hid h4
        clear hpl hb h1 h2 h3 h4 h5
        go_wp2_with fail
        refine (is_any (HR1.out.below ((Below.refl _ _).alloc (Nat.le_refl _) _)) H3.out H4.out s).mono ?_
        rintro e w2 ⟨rfl, hb2⟩
        have hb12 := below_next ((Below.refl w1.heap.size w1).alloc (Nat.le_refl _) _) hb2
        have HP2 : Hid (w2.heap[w1.heap.size]? = some (.cells #[ptr (φ a), .string s] 90 (0, 0))) := heap_below hb2 _ _ (heap_alloc_new w1 _)
        have HB2 := Lib.hid (below_next HB1.out hb12)
        have HR2 := Lib.hid (HR.out.below HB2.out)
        have hm2 := hm.below HB2.out
        rw [← H2.out, HF.out]
        clear hb2 hb12
        simp only [Option.map_some, ptrO, ptr]
        go_wp2_with fail
        refine (last_triple HL _ hm2 hs2).mono ?_
        rintro e w3 ⟨ad3, n3, rfl, _, hb⟩
        have HB3 := Lib.hid (below_next HB2.out hb)
        have HP3 := Lib.hid (heap_below hb _ _ HP2.out)
        have HR3 := Lib.hid (HR.out.below HB3.out)
        have hm3 := hm.below HB3.out
        clear hb
        go_wp2_with fail
        refine (under_pair HU _ hm3 hs hs2).mono ?_
        rintro e w4 ⟨rfl, hb⟩
        have HB4 := Lib.hid (below_next HB3.out hb)
        have HP4 := Lib.hid (heap_below hb _ _ HP3.out)
        have HR4 := Lib.hid (HR.out.below HB4.out)
        have hm4 := hm.below HB4.out
        clear hb
        have c2 := HR4.out.fileCell HOK.out HI.out HD.out
        cases n
        · go_wp2_with fail
          refine (place_any HR4.out HOK.out tt hm4 hs2).mono ?_
          rintro e w5 ⟨⟨v, s2, rfl, hpl⟩, hb⟩
          obtain ⟨l2, k, h1, h2, h3, h4, h5, rfl⟩ := hpl HC2.out
          rw [HC2.out]
          have HB5 := Lib.hid (below_next HB4.out hb)
          have HR5 := Lib.hid (HR.out.below HB5.out)
          have HP5 := Lib.hid (heap_below hb _ _ HP4.out)
          have G2 := Lib.hid h2
          have G3 := Lib.hid h3
          have G4 := Lib.hid h4
          have G5 := Lib.hid h5
          clear hpl hb h1 h2 h3 h4 h5
          go_wp2_with fail
          refine (is_any (HR5.out.below ((Below.refl _ _).alloc (Nat.le_refl _) _)) G3.out G4.out s2).mono ?_
          rintro e w6 ⟨rfl, hb2⟩
          have hb12 := below_next ((Below.refl w5.heap.size w5).alloc (Nat.le_refl _) _) hb2
          have HQ6 : Hid (w6.heap[w5.heap.size]? = some (.cells #[ptr (φ k), .string s2] 90 (0, 0))) := heap_below hb2 _ _ (heap_alloc_new w5 _)
          have HP6 := Lib.hid (heap_below hb12 _ _ HP5.out)
          have HB6 := Lib.hid (below_next HB5.out hb12)
          have HR6 := Lib.hid (HR.out.below HB6.out)
          have hm6 := hm.below HB6.out
          rw [← G2.out]
          clear hb2 hb12
          rw [HG.out]
          simp only [Option.map_none, ptrO]
          go_wp2_with fail
          have hon := onto_any HR6.out HOK.out HI.out (full tt) HK.out
          rw [HG.out] at hon
          refine hon.mono ?_
          rintro e wz ⟨rfl, hb⟩
          have HOC : Hid (t.ontoC i (full tt) = 0) := by show t.ontoC i (full tt) = 0; unfold Sp.Tree.ontoC; rw [HG.out]
          rw [HOC.out]
          have HBz := Lib.hid (below_next HB6.out hb)
          have HRz := Lib.hid (HR.out.below HBz.out)
          have HOKz := HOK
          have A3 := H3
          have A4 := H4
          have AF : Hid (t.find (l ++ [s]) = some i) := by show t.find (l ++ [s]) = some i; rw [← H2.out]; exact HF.out
          have K3 := G3
          have K4 := G4
          have KF : Hid (t.find (l2 ++ [s2]) = none) := by show t.find (l2 ++ [s2]) = none; rw [← G2.out]; exact HG.out
          have KL : Hid (t.isDir i = true → ¬ l ++ [s] <+: l2 ++ [s2]) := by
            show t.isDir i = true → ¬ l ++ [s] <+: l2 ++ [s2]
            rw [← H2.out, ← G2.out]; exact HNP.out
          have HLz := Lib.hid (HLk.out i)
          have HPz := Lib.hid (heap_below hb _ _ HP6.out)
          have HQz := Lib.hid (heap_below hb _ _ HQ6.out)
          have BND : Hid (φ i < w.heap.size ∧ μ a < w.heap.size) := ⟨HR.out.lt_thing HOK.out (has_idOf HOK.out HI.out), HR.out.lt_map HOK.out (has_idOf HOK.out H3.out) H4.out⟩
          have HTz : Hid (Turn (Rep.dom B t φ μ) w wz) := Turn.of_below HBz.out
          have HDz : Hid (∀ b, Rep.dom B t φ μ b → Rep.dom B t φ μ b) := fun _ h => h
          have HMz : Hid (t.rename p tt = (t.move (t.isDir i) (l ++ [s]) (l2 ++ [s2]), 0)) := by
            show t.rename p tt = (t.move (t.isDir i) (l ++ [s]) (l2 ++ [s2]), 0)
            rw [← H2.out, ← G2.out]; exact HM.out
          clear hb
          have c0 : wz.cell? ⟨w1.heap.size, 0, none⟩ = some (ptr (φ a)) := cell_of_heap HPz.out rfl
          have c1 : wz.cell? ⟨w1.heap.size, 1, none⟩ = some (.string s) := cell_of_heap HPz.out rfl
          unfold ptr at c0
          obtain ⟨hda, la, hla, _⟩ := HRz.out.dir a l A3.out A4.out
          have HDA := Lib.hid hda
          have HLA := Lib.hid hla
          have hget : Hid (getM la s = some (φ i)) := by
            show getM la s = some (φ i)
            rw [HRz.out.entries A3.out A4.out hla, AF.out]; rfl
          obtain ⟨di, mi, hti⟩ := HRz.out.thing HOKz.out (has_idOf HOKz.out (find_idOf HOKz.out AF.out))
          have HTi := Lib.hid hti
          clear hda hla hti
          go_wp2_with fail
          refine (away_any HDA.out HLA.out hget.out HTi.out HLz.out (links_pos HOKz.out AF.out)).mono ?_
          rintro e wy ⟨rfl, ⟨o4, ho4, hm4'⟩, hb4, hT4⟩
          obtain ⟨⟨lk, hlk⟩, dd, dn, hdk⟩ := put_ready HRz.out HOKz.out A3.out A4.out AF.out K3.out K4.out KL.out ho4 hm4' hT4
          have h15 : w.heap.size ≤ w5.heap.size := HB5.out.size
          have hQy : wy.heap[w5.heap.size]? = some (.cells #[ptr (φ k), .string s2] 90 (0, 0)) := hT4.heap HQz.out (by
            have := BND.out
            rintro (e | e) <;> omega)
          have d0 : wy.cell? ⟨w5.heap.size, 0, none⟩ = some (ptr (φ k)) := cell_of_heap hQy rfl
          have d1 : wy.cell? ⟨w5.heap.size, 1, none⟩ = some (.string s2) := cell_of_heap hQy rfl
          unfold ptr at d0
          have Hlk := Lib.hid hlk
          have Hdk := Lib.hid hdk
          have Ho4 := Lib.hid ho4
          have Hm4 := Lib.hid hm4'
          have Hb4 := Lib.hid hb4
          have HT4 := Lib.hid hT4
          clear hlk hdk ho4 hm4' hb4 hT4 hQy h15 c0 c1
          go_wp2_with fail
          refine (put_any Hdk.out Hlk.out Hb4.out (Nat.le_trans (Nat.sub_le _ _) HLz.out)).mono ?_
          rintro e wx ⟨rfl, ⟨o5, ho5, hm5⟩, hb5, hT5⟩
          go_wp2
          go_ret
          obtain ⟨h1, h2⟩ := moved_rep HRz.out HOKz.out A3.out A4.out AF.out K3.out K4.out G5.out KF.out KL.out HLA.out Hlk.out HTi.out (links_pos HOKz.out AF.out) Ho4.out Hm4.out HT4.out ho5 hm5 hb5 hT5
          unfold OpPost
          rw [HMz.out]
          exact ⟨rfl, h1, HTz.out.trans h2 (fun _ _ h => h) (fun b hb h => HDz.out b h), fun b h => HDz.out b h⟩
        · go_wp2_with fail
          refine (place_any HR4.out HOK.out tt hm4 hs2).mono ?_
          rintro e w5 ⟨⟨v, s2, rfl, hpl⟩, hb⟩
          obtain ⟨l2, k, h1, h2, h3, h4, h5, rfl⟩ := hpl HC2.out
          rw [HC2.out]
          have HB5 := Lib.hid (below_next HB4.out hb)
          have HR5 := Lib.hid (HR.out.below HB5.out)
          have HP5 := Lib.hid (heap_below hb _ _ HP4.out)
          have G2 := Lib.hid h2
          have G3 := Lib.hid h3
          have G4 := Lib.hid h4
          have G5 := Lib.hid h5
          clear hpl hb h1 h2 h3 h4 h5
          go_wp2_with fail
          refine (is_any (HR5.out.below ((Below.refl _ _).alloc (Nat.le_refl _) _)) G3.out G4.out s2).mono ?_
          rintro e w6 ⟨rfl, hb2⟩
          have hb12 := below_next ((Below.refl w5.heap.size w5).alloc (Nat.le_refl _) _) hb2
          have HQ6 : Hid (w6.heap[w5.heap.size]? = some (.cells #[ptr (φ k), .string s2] 90 (0, 0))) := heap_below hb2 _ _ (heap_alloc_new w5 _)
          have HP6 := Lib.hid (heap_below hb12 _ _ HP5.out)
          have HB6 := Lib.hid (below_next HB5.out hb12)
          have HR6 := Lib.hid (HR.out.below HB6.out)
          have hm6 := hm.below HB6.out
          rw [← G2.out]
          clear hb2 hb12
          rw [HG.out]
          simp only [Option.map_none, ptrO]
          go_wp2_with fail
          have hon := onto_any HR6.out HOK.out HI.out (full tt) HK.out
          rw [HG.out] at hon
          refine hon.mono ?_
          rintro e wz ⟨rfl, hb⟩
          have HOC : Hid (t.ontoC i (full tt) = 0) := by show t.ontoC i (full tt) = 0; unfold Sp.Tree.ontoC; rw [HG.out]
          rw [HOC.out]
          have HBz := Lib.hid (below_next HB6.out hb)
          have HRz := Lib.hid (HR.out.below HBz.out)
          have HOKz := HOK
          have A3 := H3
          have A4 := H4
          have AF : Hid (t.find (l ++ [s]) = some i) := by show t.find (l ++ [s]) = some i; rw [← H2.out]; exact HF.out
          have K3 := G3
          have K4 := G4
          have KF : Hid (t.find (l2 ++ [s2]) = none) := by show t.find (l2 ++ [s2]) = none; rw [← G2.out]; exact HG.out
          have KL : Hid (t.isDir i = true → ¬ l ++ [s] <+: l2 ++ [s2]) := by
            show t.isDir i = true → ¬ l ++ [s] <+: l2 ++ [s2]
            rw [← H2.out, ← G2.out]; exact HNP.out
          have HLz := Lib.hid (HLk.out i)
          have HPz := Lib.hid (heap_below hb _ _ HP6.out)
          have HQz := Lib.hid (heap_below hb _ _ HQ6.out)
          have BND : Hid (φ i < w.heap.size ∧ μ a < w.heap.size) := ⟨HR.out.lt_thing HOK.out (has_idOf HOK.out HI.out), HR.out.lt_map HOK.out (has_idOf HOK.out H3.out) H4.out⟩
          have HTz : Hid (Turn (Rep.dom B t φ μ) w wz) := Turn.of_below HBz.out
          have HDz : Hid (∀ b, Rep.dom B t φ μ b → Rep.dom B t φ μ b) := fun _ h => h
          have HMz : Hid (t.rename p tt = (t.move (t.isDir i) (l ++ [s]) (l2 ++ [s2]), 0)) := by
            show t.rename p tt = (t.move (t.isDir i) (l ++ [s]) (l2 ++ [s2]), 0)
            rw [← H2.out, ← G2.out]; exact HM.out
          clear hb
          have c0 : wz.cell? ⟨w1.heap.size, 0, none⟩ = some (ptr (φ a)) := cell_of_heap HPz.out rfl
          have c1 : wz.cell? ⟨w1.heap.size, 1, none⟩ = some (.string s) := cell_of_heap HPz.out rfl
          unfold ptr at c0
          obtain ⟨hda, la, hla, _⟩ := HRz.out.dir a l A3.out A4.out
          have HDA := Lib.hid hda
          have HLA := Lib.hid hla
          have hget : Hid (getM la s = some (φ i)) := by
            show getM la s = some (φ i)
            rw [HRz.out.entries A3.out A4.out hla, AF.out]; rfl
          obtain ⟨di, mi, hti⟩ := HRz.out.thing HOKz.out (has_idOf HOKz.out (find_idOf HOKz.out AF.out))
          have HTi := Lib.hid hti
          clear hda hla hti
          go_wp2_with fail
          refine (away_any HDA.out HLA.out hget.out HTi.out HLz.out (links_pos HOKz.out AF.out)).mono ?_
          rintro e wy ⟨rfl, ⟨o4, ho4, hm4'⟩, hb4, hT4⟩
          obtain ⟨⟨lk, hlk⟩, dd, dn, hdk⟩ := put_ready HRz.out HOKz.out A3.out A4.out AF.out K3.out K4.out KL.out ho4 hm4' hT4
          have h15 : w.heap.size ≤ w5.heap.size := HB5.out.size
          have hQy : wy.heap[w5.heap.size]? = some (.cells #[ptr (φ k), .string s2] 90 (0, 0)) := hT4.heap HQz.out (by
            have := BND.out
            rintro (e | e) <;> omega)
          have d0 : wy.cell? ⟨w5.heap.size, 0, none⟩ = some (ptr (φ k)) := cell_of_heap hQy rfl
          have d1 : wy.cell? ⟨w5.heap.size, 1, none⟩ = some (.string s2) := cell_of_heap hQy rfl
          unfold ptr at d0
          have Hlk := Lib.hid hlk
          have Hdk := Lib.hid hdk
          have Ho4 := Lib.hid ho4
          have Hm4 := Lib.hid hm4'
          have Hb4 := Lib.hid hb4
          have HT4 := Lib.hid hT4
          clear hlk hdk ho4 hm4' hb4 hT4 hQy h15 c0 c1
          go_wp2_with fail
          refine (put_any Hdk.out Hlk.out Hb4.out (Nat.le_trans (Nat.sub_le _ _) HLz.out)).mono ?_
          rintro e wx ⟨rfl, ⟨o5, ho5, hm5⟩, hb5, hT5⟩
          go_wp2
          go_ret
          obtain ⟨h1, h2⟩ := moved_rep HRz.out HOKz.out A3.out A4.out AF.out K3.out K4.out G5.out KF.out KL.out HLA.out Hlk.out HTi.out (links_pos HOKz.out AF.out) Ho4.out Hm4.out HT4.out ho5 hm5 hb5 hT5
          unfold OpPost
          rw [HMz.out]
          exact ⟨rfl, h1, HTz.out.trans h2 (fun _ _ h => h) (fun b hb h => HDz.out b h), fun b h => HDz.out b h⟩
    | some j =>
      by_cases hij : i = j
      · subst hij
        have HM := Lib.hid (rename_same HC.out HF.out HL2.out HNL.out HC2.out hr)
        clear hr
        have hsk : Hid ((n = false ∨ t.isDir i = false) ∨ n = true ∧ t.isDir i = true ∧ p = tt) := by
          cases n with
          | false => exact Or.inl (Or.inl rfl)
          | true => cases hd : t.isDir i with
            | false => exact Or.inl (Or.inr rfl)
            | true => exact Or.inr ⟨rfl, rfl, Classical.byContradiction fun hne => hloop ⟨hd, rfl, hne⟩⟩
        clear hloop
        rcases hsk.out with (rfl | hd) | ⟨rfl, hd, hpt⟩
        · clear hsk
          go_enter Tryz.func31, Tryz.ntmps31
          go_wp2_with fail
          refine (place_any HR.out HOK.out p hm hs).mono ?_
          rintro e w1 ⟨⟨v, s, rfl, hpl⟩, hb⟩
          obtain ⟨l, a, h1, h2, h3, h4, h5, rfl⟩ := hpl HC.out
          rw [HC.out]
          have HB1 := Lib.hid hb
          have HR1 := Lib.hid (HR.out.below hb)
          have H2 := Lib.hid h2
          have H3 := Lib.hid h3
          have H4 := Lib.hid h4
          clear hpl hb h1 h2 h3 h4 h5
          go_wp2_with fail
          refine (is_any (HR1.out.below ((Below.refl _ _).alloc (Nat.le_refl _) _)) H3.out H4.out s).mono ?_
          rintro e w2 ⟨rfl, hb2⟩
          have hb12 := below_next ((Below.refl w1.heap.size w1).alloc (Nat.le_refl _) _) hb2
          have HP2 : Hid (w2.heap[w1.heap.size]? = some (.cells #[ptr (φ a), .string s] 90 (0, 0))) := heap_below hb2 _ _ (heap_alloc_new w1 _)
          have HB2 := Lib.hid (below_next HB1.out hb12)
          have HR2 := Lib.hid (HR.out.below HB2.out)
          have hm2 := hm.below HB2.out
          rw [← H2.out, HF.out]
          clear hb2 hb12
          simp only [Option.map_some, ptrO, ptr]
          go_wp2_with fail
          refine (last_triple HL _ hm2 hs2).mono ?_
          rintro e w3 ⟨ad3, n3, rfl, _, hb⟩
          have HB3 := Lib.hid (below_next HB2.out hb)
          have HP3 := Lib.hid (heap_below hb _ _ HP2.out)
          have HR3 := Lib.hid (HR.out.below HB3.out)
          have hm3 := hm.below HB3.out
          clear hb
          go_wp2_with fail
          refine (under_pair HU _ hm3 hs hs2).mono ?_
          rintro e w4 ⟨rfl, hb⟩
          have HB4 := Lib.hid (below_next HB3.out hb)
          have HP4 := Lib.hid (heap_below hb _ _ HP3.out)
          have HR4 := Lib.hid (HR.out.below HB4.out)
          have hm4 := hm.below HB4.out
          clear hb
          go_wp2_with fail
          refine (place_any HR4.out HOK.out tt hm4 hs2).mono ?_
          rintro e w5 ⟨⟨v, s2, rfl, hpl⟩, hb⟩
          obtain ⟨l2, k, h1, h2, h3, h4, h5, rfl⟩ := hpl HC2.out
          rw [HC2.out]
          have HB5 := Lib.hid (below_next HB4.out hb)
          have HR5 := Lib.hid (HR.out.below HB5.out)
          have HP5 := Lib.hid (heap_below hb _ _ HP4.out)
          have G2 := Lib.hid h2
          have G3 := Lib.hid h3
          have G4 := Lib.hid h4
          have G5 := Lib.hid h5
          clear hpl hb h1 h2 h3 h4 h5
          go_wp2_with fail
          refine (is_any (HR5.out.below ((Below.refl _ _).alloc (Nat.le_refl _) _)) G3.out G4.out s2).mono ?_
          rintro e w6 ⟨rfl, hb2⟩
          have hb12 := below_next ((Below.refl w5.heap.size w5).alloc (Nat.le_refl _) _) hb2
          have HQ6 : Hid (w6.heap[w5.heap.size]? = some (.cells #[ptr (φ k), .string s2] 90 (0, 0))) := heap_below hb2 _ _ (heap_alloc_new w5 _)
          have HP6 := Lib.hid (heap_below hb12 _ _ HP5.out)
          have HB6 := Lib.hid (below_next HB5.out hb12)
          have HR6 := Lib.hid (HR.out.below HB6.out)
          have hm6 := hm.below HB6.out
          rw [← G2.out]
          clear hb2 hb12
          rw [HG.out]
          simp only [Option.map_some, ptrO, ptr]
          go_wp2
          go_ret
          exact OpPost.same HM.out HR.out HB6.out
        · have HD := Lib.hid hd
          clear hd hsk
          go_enter Tryz.func31, Tryz.ntmps31
          go_wp2_with fail
          refine (place_any HR.out HOK.out p hm hs).mono ?_
          rintro e w1 ⟨⟨v, s, rfl, hpl⟩, hb⟩
          obtain ⟨l, a, h1, h2, h3, h4, h5, rfl⟩ := hpl HC.out
          rw [HC.out]
          have HB1 := Lib.hid hb
          have HR1 := Lib.hid (HR.out.below hb)
          have H2 := Lib.hid h2
          have H3 := Lib.hid h3
          have H4 := Lib.hid h4
          clear hpl hb h1 h2 h3 h4 h5
          go_wp2_with fail
          refine (is_any (HR1.out.below ((Below.refl _ _).alloc (Nat.le_refl _) _)) H3.out H4.out s).mono ?_
          rintro e w2 ⟨rfl, hb2⟩
          have hb12 := below_next ((Below.refl w1.heap.size w1).alloc (Nat.le_refl _) _) hb2
          have HP2 : Hid (w2.heap[w1.heap.size]? = some (.cells #[ptr (φ a), .string s] 90 (0, 0))) := heap_below hb2 _ _ (heap_alloc_new w1 _)
          have HB2 := Lib.hid (below_next HB1.out hb12)
          have HR2 := Lib.hid (HR.out.below HB2.out)
          have hm2 := hm.below HB2.out
          rw [← H2.out, HF.out]
          clear hb2 hb12
          simp only [Option.map_some, ptrO, ptr]
          go_wp2_with fail
          refine (last_triple HL _ hm2 hs2).mono ?_
          rintro e w3 ⟨ad3, n3, rfl, _, hb⟩
          have HB3 := Lib.hid (below_next HB2.out hb)
          have HP3 := Lib.hid (heap_below hb _ _ HP2.out)
          have HR3 := Lib.hid (HR.out.below HB3.out)
          have hm3 := hm.below HB3.out
          clear hb
          go_wp2_with fail
          refine (under_pair HU _ hm3 hs hs2).mono ?_
          rintro e w4 ⟨rfl, hb⟩
          have HB4 := Lib.hid (below_next HB3.out hb)
          have HP4 := Lib.hid (heap_below hb _ _ HP3.out)
          have HR4 := Lib.hid (HR.out.below HB4.out)
          have hm4 := hm.below HB4.out
          clear hb
          have c2 := HR4.out.fileCell HOK.out HI.out HD.out
          cases n
          · go_wp2_with fail
            refine (place_any HR4.out HOK.out tt hm4 hs2).mono ?_
            rintro e w5 ⟨⟨v, s2, rfl, hpl⟩, hb⟩
            obtain ⟨l2, k, h1, h2, h3, h4, h5, rfl⟩ := hpl HC2.out
            rw [HC2.out]
            have HB5 := Lib.hid (below_next HB4.out hb)
            have HR5 := Lib.hid (HR.out.below HB5.out)
            have HP5 := Lib.hid (heap_below hb _ _ HP4.out)
            have G2 := Lib.hid h2
            have G3 := Lib.hid h3
            have G4 := Lib.hid h4
            have G5 := Lib.hid h5
            clear hpl hb h1 h2 h3 h4 h5
            go_wp2_with fail
            refine (is_any (HR5.out.below ((Below.refl _ _).alloc (Nat.le_refl _) _)) G3.out G4.out s2).mono ?_
            rintro e w6 ⟨rfl, hb2⟩
            have hb12 := below_next ((Below.refl w5.heap.size w5).alloc (Nat.le_refl _) _) hb2
            have HQ6 : Hid (w6.heap[w5.heap.size]? = some (.cells #[ptr (φ k), .string s2] 90 (0, 0))) := heap_below hb2 _ _ (heap_alloc_new w5 _)
            have HP6 := Lib.hid (heap_below hb12 _ _ HP5.out)
            have HB6 := Lib.hid (below_next HB5.out hb12)
            have HR6 := Lib.hid (HR.out.below HB6.out)
            have hm6 := hm.below HB6.out
            rw [← G2.out]
            clear hb2 hb12
            rw [HG.out]
            simp only [Option.map_some, ptrO, ptr]
            go_wp2
            go_ret
            exact OpPost.same HM.out HR.out HB6.out
          · go_wp2_with fail
            refine (place_any HR4.out HOK.out tt hm4 hs2).mono ?_
            rintro e w5 ⟨⟨v, s2, rfl, hpl⟩, hb⟩
            obtain ⟨l2, k, h1, h2, h3, h4, h5, rfl⟩ := hpl HC2.out
            rw [HC2.out]
            have HB5 := Lib.hid (below_next HB4.out hb)
            have HR5 := Lib.hid (HR.out.below HB5.out)
            have HP5 := Lib.hid (heap_below hb _ _ HP4.out)
            have G2 := Lib.hid h2
            have G3 := Lib.hid h3
            have G4 := Lib.hid h4
            have G5 := Lib.hid h5
            clear hpl hb h1 h2 h3 h4 h5
            go_wp2_with fail
            refine (is_any (HR5.out.below ((Below.refl _ _).alloc (Nat.le_refl _) _)) G3.out G4.out s2).mono ?_
            rintro e w6 ⟨rfl, hb2⟩
            have hb12 := below_next ((Below.refl w5.heap.size w5).alloc (Nat.le_refl _) _) hb2
            have HQ6 : Hid (w6.heap[w5.heap.size]? = some (.cells #[ptr (φ k), .string s2] 90 (0, 0))) := heap_below hb2 _ _ (heap_alloc_new w5 _)
            have HP6 := Lib.hid (heap_below hb12 _ _ HP5.out)
            have HB6 := Lib.hid (below_next HB5.out hb12)
            have HR6 := Lib.hid (HR.out.below HB6.out)
            have hm6 := hm.below HB6.out
            rw [← G2.out]
            clear hb2 hb12
            rw [HG.out]
            simp only [Option.map_some, ptrO, ptr]
            go_wp2
            go_ret
            exact OpPost.same HM.out HR.out HB6.out
        · have HD := Lib.hid hd
          have q' : (p.toList == tt.toList) = true := (text_eq p tt).trans (decide_eq_true hpt)
          clear hd hsk hpt
          go_enter Tryz.func31, Tryz.ntmps31
          go_wp2_with fail
          refine (place_any HR.out HOK.out p hm hs).mono ?_
          rintro e w1 ⟨⟨v, s, rfl, hpl⟩, hb⟩
          obtain ⟨l, a, h1, h2, h3, h4, h5, rfl⟩ := hpl HC.out
          rw [HC.out]
          have HB1 := Lib.hid hb
          have HR1 := Lib.hid (HR.out.below hb)
          have H2 := Lib.hid h2
          have H3 := Lib.hid h3
          have H4 := Lib.hid h4
          clear hpl hb h1 h2 h3 h4 h5
          go_wp2_with fail
          refine (is_any (HR1.out.below ((Below.refl _ _).alloc (Nat.le_refl _) _)) H3.out H4.out s).mono ?_
          rintro e w2 ⟨rfl, hb2⟩
          have hb12 := below_next ((Below.refl w1.heap.size w1).alloc (Nat.le_refl _) _) hb2
          have HP2 : Hid (w2.heap[w1.heap.size]? = some (.cells #[ptr (φ a), .string s] 90 (0, 0))) := heap_below hb2 _ _ (heap_alloc_new w1 _)
          have HB2 := Lib.hid (below_next HB1.out hb12)
          have HR2 := Lib.hid (HR.out.below HB2.out)
          have hm2 := hm.below HB2.out
          rw [← H2.out, HF.out]
          clear hb2 hb12
          simp only [Option.map_some, ptrO, ptr]
          go_wp2_with fail
          refine (last_triple HL _ hm2 hs2).mono ?_
          rintro e w3 ⟨ad3, n3, rfl, _, hb⟩
          have HB3 := Lib.hid (below_next HB2.out hb)
          have HP3 := Lib.hid (heap_below hb _ _ HP2.out)
          have HR3 := Lib.hid (HR.out.below HB3.out)
          have hm3 := hm.below HB3.out
          clear hb
          go_wp2_with fail
          refine (under_pair HU _ hm3 hs hs2).mono ?_
          rintro e w4 ⟨rfl, hb⟩
          have HB4 := Lib.hid (below_next HB3.out hb)
          have HP4 := Lib.hid (heap_below hb _ _ HP3.out)
          have HR4 := Lib.hid (HR.out.below HB4.out)
          have hm4 := hm.below HB4.out
          clear hb
          have c2 := HR4.out.dirCell HI.out HD.out
          go_wp2_with fail
          refine (place_any HR4.out HOK.out tt hm4 hs2).mono ?_
          rintro e w5 ⟨⟨v, s2, rfl, hpl⟩, hb⟩
          obtain ⟨l2, k, h1, h2, h3, h4, h5, rfl⟩ := hpl HC2.out
          rw [HC2.out]
          have HB5 := Lib.hid (below_next HB4.out hb)
          have HR5 := Lib.hid (HR.out.below HB5.out)
          have HP5 := Lib.hid (heap_below hb _ _ HP4.out)
          have G2 := Lib.hid h2
          have G3 := Lib.hid h3
          have G4 := Lib.hid h4
          have G5 := Lib.hid h5
          clear hpl hb h1 h2 h3 h4 h5
          go_wp2_with fail
          refine (is_any (HR5.out.below ((Below.refl _ _).alloc (Nat.le_refl _) _)) G3.out G4.out s2).mono ?_
          rintro e w6 ⟨rfl, hb2⟩
          have hb12 := below_next ((Below.refl w5.heap.size w5).alloc (Nat.le_refl _) _) hb2
          have HQ6 : Hid (w6.heap[w5.heap.size]? = some (.cells #[ptr (φ k), .string s2] 90 (0, 0))) := heap_below hb2 _ _ (heap_alloc_new w5 _)
          have HP6 := Lib.hid (heap_below hb12 _ _ HP5.out)
          have HB6 := Lib.hid (below_next HB5.out hb12)
          have HR6 := Lib.hid (HR.out.below HB6.out)
          have hm6 := hm.below HB6.out
          rw [← G2.out]
          clear hb2 hb12
          rw [HG.out]
          simp only [Option.map_some, ptrO, ptr]
          go_wp2
          go_ret
          exact OpPost.same HM.out HR.out HB6.out
      · have HJ := Lib.hid (find_idOf HOK.out hr)
        have HIJ := Lib.hid hij
        have hMo := rename_onto HC.out HF.out HL2.out HNL.out HC2.out hr hij
        have hne : p ≠ tt := fun e => hij (by rw [← e, HF.out] at hr; exact Option.some.inj hr)
        have hsk : Hid (n = false ∨ t.isDir i = false) := by
          cases n with
          | false => exact Or.inl rfl
          | true => exact Or.inr (by cases hd : t.isDir i with | false => rfl | true => exact absurd ⟨hd, rfl, hne⟩ hloop)
        have HNP : Hid (t.isDir i = true → ¬ full p <+: full tt) := fun h1 h2 => HNL.out ⟨h1, h2, hne⟩
        obtain ⟨c, hc⟩ : ∃ c, t.ontoC i (full tt) = c := ⟨_, rfl⟩
        have HOC := Lib.hid hc
        rw [hc] at hMo
        clear hr hloop hne hc
        by_cases h0 : c = 0
        rotate_left
        · rw [if_neg h0] at hMo
          have hc0 : (c == 0) = false := beq_eq_false_iff_ne.2 h0
          have HM := Lib.hid hMo
          clear hMo h0
          rcases hsk.out with rfl | hd
          · clear hsk
            go_enter Tryz.func31, Tryz.ntmps31
            go_wp2_with fail
            refine (place_any HR.out HOK.out p hm hs).mono ?_
            rintro e w1 ⟨⟨v, s, rfl, hpl⟩, hb⟩
            obtain ⟨l, a, h1, h2, h3, h4, h5, rfl⟩ := hpl HC.out
            rw [HC.out]
            have HB1 := Lib.hid hb
            have HR1 := Lib.hid (HR.out.below hb)
            have H2 := Lib.hid h2
            have H3 := Lib.hid h3
            have H4 := Lib.hid h4
            clear hpl hb h1 h2 h3 h4 h5
            go_wp2_with fail
            refine (is_any (HR1.out.below ((Below.refl _ _).alloc (Nat.le_refl _) _)) H3.out H4.out s).mono ?_
            rintro e w2 ⟨rfl, hb2⟩
            have hb12 := below_next ((Below.refl w1.heap.size w1).alloc (Nat.le_refl _) _) hb2
            have HP2 : Hid (w2.heap[w1.heap.size]? = some (.cells #[ptr (φ a), .string s] 90 (0, 0))) := heap_below hb2 _ _ (heap_alloc_new w1 _)
            have HB2 := Lib.hid (below_next HB1.out hb12)
            have HR2 := Lib.hid (HR.out.below HB2.out)
            have hm2 := hm.below HB2.out
            rw [← H2.out, HF.out]
            clear hb2 hb12
            simp only [Option.map_some, ptrO, ptr]
            go_wp2_with fail
            refine (last_triple HL _ hm2 hs2).mono ?_
            rintro e w3 ⟨ad3, n3, rfl, _, hb⟩
            have HB3 := Lib.hid (below_next HB2.out hb)
            have HP3 := Lib.hid (heap_below hb _ _ HP2.out)
            have HR3 := Lib.hid (HR.out.below HB3.out)
            have hm3 := hm.below HB3.out
            clear hb
            go_wp2_with fail
            refine (under_pair HU _ hm3 hs hs2).mono ?_
            rintro e w4 ⟨rfl, hb⟩
            have HB4 := Lib.hid (below_next HB3.out hb)
            have HP4 := Lib.hid (heap_below hb _ _ HP3.out)
            have HR4 := Lib.hid (HR.out.below HB4.out)
            have hm4 := hm.below HB4.out
            clear hb
            go_wp2_with fail
            refine (place_any HR4.out HOK.out tt hm4 hs2).mono ?_
            rintro e w5 ⟨⟨v, s2, rfl, hpl⟩, hb⟩
            obtain ⟨l2, k, h1, h2, h3, h4, h5, rfl⟩ := hpl HC2.out
            rw [HC2.out]
            have HB5 := Lib.hid (below_next HB4.out hb)
            have HR5 := Lib.hid (HR.out.below HB5.out)
            have HP5 := Lib.hid (heap_below hb _ _ HP4.out)
            have G2 := Lib.hid h2
            have G3 := Lib.hid h3
            have G4 := Lib.hid h4
            have G5 := Lib.hid h5
            clear hpl hb h1 h2 h3 h4 h5
            go_wp2_with fail
            refine (is_any (HR5.out.below ((Below.refl _ _).alloc (Nat.le_refl _) _)) G3.out G4.out s2).mono ?_
            rintro e w6 ⟨rfl, hb2⟩
            have hb12 := below_next ((Below.refl w5.heap.size w5).alloc (Nat.le_refl _) _) hb2
            have HQ6 : Hid (w6.heap[w5.heap.size]? = some (.cells #[ptr (φ k), .string s2] 90 (0, 0))) := heap_below hb2 _ _ (heap_alloc_new w5 _)
            have HP6 := Lib.hid (heap_below hb12 _ _ HP5.out)
            have HB6 := Lib.hid (below_next HB5.out hb12)
            have HR6 := Lib.hid (HR.out.below HB6.out)
            have hm6 := hm.below HB6.out
            rw [← G2.out]
            clear hb2 hb12
            rw [HG.out]
            simp only [Option.map_some, ptrO, ptr]
            obtain ⟨_, _, hti6⟩ := HR6.out.thing HOK.out (has_idOf HOK.out HI.out)
            obtain ⟨_, _, htj6⟩ := HR6.out.thing HOK.out (has_idOf HOK.out HJ.out)
            have p3 := eql_other htj6 hti6 (fun e => HIJ.out (HR6.out.inj _ _ (has_idOf HOK.out HI.out) (has_idOf HOK.out HJ.out) e.symm))
            clear hti6 htj6
            go_wp2_with fail
            have hon := onto_any HR6.out HOK.out HI.out (full tt) HK.out
            rw [HG.out] at hon
            refine hon.mono ?_
            rintro e w7 ⟨rfl, hb⟩
            rw [HOC.out]
            have HB7 := Lib.hid (below_next HB6.out hb)
            clear hb p3
            go_wp2
            go_ret
            exact OpPost.same HM.out HR.out HB7.out
          · have HD := Lib.hid hd
            clear hd hsk
            go_enter Tryz.func31, Tryz.ntmps31
            go_wp2_with fail
            refine (place_any HR.out HOK.out p hm hs).mono ?_
            rintro e w1 ⟨⟨v, s, rfl, hpl⟩, hb⟩
            obtain ⟨l, a, h1, h2, h3, h4, h5, rfl⟩ := hpl HC.out
            rw [HC.out]
            have HB1 := Lib.hid hb
            have HR1 := Lib.hid (HR.out.below hb)
            have H2 := Lib.hid h2
            have H3 := Lib.hid h3
            have H4 := Lib.hid h4
            clear hpl hb h1 h2 h3 h4 h5
            go_wp2_with fail
            refine (is_any (HR1.out.below ((Below.refl _ _).alloc (Nat.le_refl _) _)) H3.out H4.out s).mono ?_
            rintro e w2 ⟨rfl, hb2⟩
            have hb12 := below_next ((Below.refl w1.heap.size w1).alloc (Nat.le_refl _) _) hb2
            have HP2 : Hid (w2.heap[w1.heap.size]? = some (.cells #[ptr (φ a), .string s] 90 (0, 0))) := heap_below hb2 _ _ (heap_alloc_new w1 _)
            have HB2 := Lib.hid (below_next HB1.out hb12)
            have HR2 := Lib.hid (HR.out.below HB2.out)
            have hm2 := hm.below HB2.out
            rw [← H2.out, HF.out]
            clear hb2 hb12
            simp only [Option.map_some, ptrO, ptr]
            go_wp2_with fail
            refine (last_triple HL _ hm2 hs2).mono ?_
            rintro e w3 ⟨ad3, n3, rfl, _, hb⟩
            have HB3 := Lib.hid (below_next HB2.out hb)
            have HP3 := Lib.hid (heap_below hb _ _ HP2.out)
            have HR3 := Lib.hid (HR.out.below HB3.out)
            have hm3 := hm.below HB3.out
            clear hb
            go_wp2_with fail
            refine (under_pair HU _ hm3 hs hs2).mono ?_
            rintro e w4 ⟨rfl, hb⟩
            have HB4 := Lib.hid (below_next HB3.out hb)
            have HP4 := Lib.hid (heap_below hb _ _ HP3.out)
            have HR4 := Lib.hid (HR.out.below HB4.out)
            have hm4 := hm.below HB4.out
            clear hb
            have c2 := HR4.out.fileCell HOK.out HI.out HD.out
            cases n
            · go_wp2_with fail
              refine (place_any HR4.out HOK.out tt hm4 hs2).mono ?_
              rintro e w5 ⟨⟨v, s2, rfl, hpl⟩, hb⟩
              obtain ⟨l2, k, h1, h2, h3, h4, h5, rfl⟩ := hpl HC2.out
              rw [HC2.out]
              have HB5 := Lib.hid (below_next HB4.out hb)
              have HR5 := Lib.hid (HR.out.below HB5.out)
              have HP5 := Lib.hid (heap_below hb _ _ HP4.out)
              have G2 := Lib.hid h2
              have G3 := Lib.hid h3
              have G4 := Lib.hid h4
              have G5 := Lib.hid h5
              clear hpl hb h1 h2 h3 h4 h5
              go_wp2_with fail
              refine (is_any (HR5.out.below ((Below.refl _ _).alloc (Nat.le_refl _) _)) G3.out G4.out s2).mono ?_
              rintro e w6 ⟨rfl, hb2⟩
              have hb12 := below_next ((Below.refl w5.heap.size w5).alloc (Nat.le_refl _) _) hb2
              have HQ6 : Hid (w6.heap[w5.heap.size]? = some (.cells #[ptr (φ k), .string s2] 90 (0, 0))) := heap_below hb2 _ _ (heap_alloc_new w5 _)
              have HP6 := Lib.hid (heap_below hb12 _ _ HP5.out)
              have HB6 := Lib.hid (below_next HB5.out hb12)
              have HR6 := Lib.hid (HR.out.below HB6.out)
              have hm6 := hm.below HB6.out
              rw [← G2.out]
              clear hb2 hb12
              rw [HG.out]
              simp only [Option.map_some, ptrO, ptr]
              obtain ⟨_, _, hti6⟩ := HR6.out.thing HOK.out (has_idOf HOK.out HI.out)
              obtain ⟨_, _, htj6⟩ := HR6.out.thing HOK.out (has_idOf HOK.out HJ.out)
              have p3 := eql_other htj6 hti6 (fun e => HIJ.out (HR6.out.inj _ _ (has_idOf HOK.out HI.out) (has_idOf HOK.out HJ.out) e.symm))
              clear hti6 htj6
              go_wp2_with fail
              have hon := onto_any HR6.out HOK.out HI.out (full tt) HK.out
              rw [HG.out] at hon
              refine hon.mono ?_
              rintro e w7 ⟨rfl, hb⟩
              rw [HOC.out]
              have HB7 := Lib.hid (below_next HB6.out hb)
              clear hb p3
              go_wp2
              go_ret
              exact OpPost.same HM.out HR.out HB7.out
            · go_wp2_with fail
              refine (place_any HR4.out HOK.out tt hm4 hs2).mono ?_
              rintro e w5 ⟨⟨v, s2, rfl, hpl⟩, hb⟩
              obtain ⟨l2, k, h1, h2, h3, h4, h5, rfl⟩ := hpl HC2.out
              rw [HC2.out]
              have HB5 := Lib.hid (below_next HB4.out hb)
              have HR5 := Lib.hid (HR.out.below HB5.out)
              have HP5 := Lib.hid (heap_below hb _ _ HP4.out)
              have G2 := Lib.hid h2
              have G3 := Lib.hid h3
              have G4 := Lib.hid h4
              have G5 := Lib.hid h5
              clear hpl hb h1 h2 h3 h4 h5
              go_wp2_with fail
              refine (is_any (HR5.out.below ((Below.refl _ _).alloc (Nat.le_refl _) _)) G3.out G4.out s2).mono ?_
              rintro e w6 ⟨rfl, hb2⟩
              have hb12 := below_next ((Below.refl w5.heap.size w5).alloc (Nat.le_refl _) _) hb2
              have HQ6 : Hid (w6.heap[w5.heap.size]? = some (.cells #[ptr (φ k), .string s2] 90 (0, 0))) := heap_below hb2 _ _ (heap_alloc_new w5 _)
              have HP6 := Lib.hid (heap_below hb12 _ _ HP5.out)
              have HB6 := Lib.hid (below_next HB5.out hb12)
              have HR6 := Lib.hid (HR.out.below HB6.out)
              have hm6 := hm.below HB6.out
              rw [← G2.out]
              clear hb2 hb12
              rw [HG.out]
              simp only [Option.map_some, ptrO, ptr]
              obtain ⟨_, _, hti6⟩ := HR6.out.thing HOK.out (has_idOf HOK.out HI.out)
              obtain ⟨_, _, htj6⟩ := HR6.out.thing HOK.out (has_idOf HOK.out HJ.out)
              have p3 := eql_other htj6 hti6 (fun e => HIJ.out (HR6.out.inj _ _ (has_idOf HOK.out HI.out) (has_idOf HOK.out HJ.out) e.symm))
              clear hti6 htj6
              go_wp2_with fail
              have hon := onto_any HR6.out HOK.out HI.out (full tt) HK.out
              rw [HG.out] at hon
              refine hon.mono ?_
              rintro e w7 ⟨rfl, hb⟩
              rw [HOC.out]
              have HB7 := Lib.hid (below_next HB6.out hb)
              clear hb p3
              go_wp2
              go_ret
              exact OpPost.same HM.out HR.out HB7.out
        subst h0
        rw [if_pos rfl] at hMo
        have HM := Lib.hid hMo
        clear hMo
        rcases hsk.out with rfl | hd
        · clear hsk
          go_enter Tryz.func31, Tryz.ntmps31
          go_wp2_with fail
          refine (place_any HR.out HOK.out p hm hs).mono ?_
          rintro e w1 ⟨⟨v, s, rfl, hpl⟩, hb⟩
          obtain ⟨l, a, h1, h2, h3, h4, h5, rfl⟩ := hpl HC.out
          rw [HC.out]
          have HB1 := Lib.hid hb
          have HR1 := Lib.hid (HR.out.below hb)
          have H2 := Lib.hid h2
          have H3 := Lib.hid h3
          have H4 := Lib.hid h4
          clear hpl hb h1 h2 h3 h4 h5
          go_wp2_with fail
          refine (is_any (HR1.out.below ((Below.refl _ _).alloc (Nat.le_refl _) _)) H3.out H4.out s).mono ?_
          rintro e w2 ⟨rfl, hb2⟩
          have hb12 := below_next ((Below.refl w1.heap.size w1).alloc (Nat.le_refl _) _) hb2
          have HP2 : Hid (w2.heap[w1.heap.size]? = some (.cells #[ptr (φ a), .string s] 90 (0, 0))) := heap_below hb2 _ _ (heap_alloc_new w1 _)
          have HB2 := Lib.hid (below_next HB1.out hb12)
          have HR2 := Lib.hid (HR.out.below HB2.out)
          have hm2 := hm.below HB2.out
          rw [← H2.out, HF.out]
          clear hb2 hb12
          simp only [Option.map_some, ptrO, ptr]
          go_wp2_with fail
          refine (last_triple HL _ hm2 hs2).mono ?_
          rintro e w3 ⟨ad3, n3, rfl, _, hb⟩
          have HB3 := Lib.hid (below_next HB2.out hb)
          have HP3 := Lib.hid (heap_below hb _ _ HP2.out)
          have HR3 := Lib.hid (HR.out.below HB3.out)
          have hm3 := hm.below HB3.out
          clear hb
          go_wp2_with fail
          refine (under_pair HU _ hm3 hs hs2).mono ?_
          rintro e w4 ⟨rfl, hb⟩
          have HB4 := Lib.hid (below_next HB3.out hb)
          have HP4 := Lib.hid (heap_below hb _ _ HP3.out)
          have HR4 := Lib.hid (HR.out.below HB4.out)
          have hm4 := hm.below HB4.out
          clear hb
          go_wp2_with fail
          refine (place_any HR4.out HOK.out tt hm4 hs2).mono ?_
          rintro e w5 ⟨⟨v, s2, rfl, hpl⟩, hb⟩
          obtain ⟨l2, k, h1, h2, h3, h4, h5, rfl⟩ := hpl HC2.out
          rw [HC2.out]
          have HB5 := Lib.hid (below_next HB4.out hb)
          have HR5 := Lib.hid (HR.out.below HB5.out)
          have HP5 := Lib.hid (heap_below hb _ _ HP4.out)
          have G2 := Lib.hid h2
          have G3 := Lib.hid h3
          have G4 := Lib.hid h4
          have G5 := Lib.hid h5
          clear hpl hb h1 h2 h3 h4 h5
          go_wp2_with fail
          refine (is_any (HR5.out.below ((Below.refl _ _).alloc (Nat.le_refl _) _)) G3.out G4.out s2).mono ?_
          rintro e w6 ⟨rfl, hb2⟩
          have hb12 := below_next ((Below.refl w5.heap.size w5).alloc (Nat.le_refl _) _) hb2
          have HQ6 : Hid (w6.heap[w5.heap.size]? = some (.cells #[ptr (φ k), .string s2] 90 (0, 0))) := heap_below hb2 _ _ (heap_alloc_new w5 _)
          have HP6 := Lib.hid (heap_below hb12 _ _ HP5.out)
          have HB6 := Lib.hid (below_next HB5.out hb12)
          have HR6 := Lib.hid (HR.out.below HB6.out)
          have hm6 := hm.below HB6.out
          rw [← G2.out]
          clear hb2 hb12
          rw [HG.out]
          simp only [Option.map_some, ptrO, ptr]
          obtain ⟨_, _, hti6⟩ := HR6.out.thing HOK.out (has_idOf HOK.out HI.out)
          obtain ⟨_, _, htj6⟩ := HR6.out.thing HOK.out (has_idOf HOK.out HJ.out)
          have p3 := eql_other htj6 hti6 (fun e => HIJ.out (HR6.out.inj _ _ (has_idOf HOK.out HI.out) (has_idOf HOK.out HJ.out) e.symm))
          clear hti6 htj6
          go_wp2_with fail
          have hon := onto_any HR6.out HOK.out HI.out (full tt) HK.out
          rw [HG.out] at hon
          refine hon.mono ?_
          rintro e w7 ⟨rfl, hb⟩
          rw [HOC.out]
          have HB7 := Lib.hid (below_next HB6.out hb)
          have HR7 := Lib.hid (HR.out.below HB7.out)
          have HP7 := Lib.hid (heap_below hb _ _ HP6.out)
          have HQ7 := Lib.hid (heap_below hb _ _ HQ6.out)
          clear hb p3
          have e0 : w7.cell? ⟨w5.heap.size, 0, none⟩ = some (ptr (φ k)) := cell_of_heap HQ7.out rfl
          have e1 : w7.cell? ⟨w5.heap.size, 1, none⟩ = some (.string s2) := cell_of_heap HQ7.out rfl
          unfold ptr at e0
          have KG : Hid (t.find (l2 ++ [s2]) = some j) := by show t.find (l2 ++ [s2]) = some j; rw [← G2.out]; exact HG.out
          obtain ⟨hdk, lk, hlk, _⟩ := HR7.out.dir k l2 G3.out G4.out
          have HDK := Lib.hid hdk
          have HLK := Lib.hid hlk
          have hgetk : Hid (getM lk s2 = some (φ j)) := by
            show getM lk s2 = some (φ j)
            rw [HR7.out.entries G3.out G4.out hlk, KG.out]; rfl
          obtain ⟨dj, mj, htj⟩ := HR7.out.thing HOK.out (has_idOf HOK.out HJ.out)
          have HTj := Lib.hid htj
          clear hdk hlk htj
          go_wp2_with fail
          refine (away_any HDK.out HLK.out hgetk.out HTj.out (HLk.out j) (links_pos HOK.out KG.out)).mono ?_
          rintro e wz ⟨rfl, ⟨o3, ho3, hm3'⟩, hb3, hT3⟩
          have hbelow : ∀ s k, (l2 ++ [s2] ++ [s], k) ∉ t.names := by rw [← G2.out]; exact onto_below HOK.out HG.out HOC.out
          have hHz := HR7.out.forget HOK.out G3.out G4.out KG.out hbelow HLK.out (fun b o ho h1 h2 => hT3.heap ho (fun h => h.elim h1 h2)) HTj.out hb3 hm3' ho3
          have HRz := Lib.hid hHz
          have HOKz := Lib.hid (HOK.out.forget KG.out hbelow)
          have hneq : l ++ [s] ≠ l2 ++ [s2] := by
            rw [← H2.out, ← G2.out]
            intro e
            have h1 := HF.out
            rw [e, HG.out] at h1
            exact HIJ.out (Option.some.inj h1).symm
          have hat := forget_at HOK.out KG.out hbelow H3.out (by rw [← H2.out]; exact HF.out) hneq
          have A3 := Lib.hid hat.1
          have AF := Lib.hid hat.2
          have hlne : l ≠ l2 ++ [s2] := fun e => hbelow s i (by rw [← e, ← H2.out]; exact (find_mem HOK.out).1 HF.out)
          have A4 : Hid ((t.forget (l2 ++ [s2])).isDir a = true) := by
            show (t.forget (l2 ++ [s2])).isDir a = true
            rw [isDir_forget HOK.out KG.out hbelow H3.out hlne]; exact H4.out
          have K3 := Lib.hid (forget_up HOK.out KG.out G3.out)
          have K4 : Hid ((t.forget (l2 ++ [s2])).isDir k = true) := by
            show (t.forget (l2 ++ [s2])).isDir k = true
            rw [isDir_forget HOK.out KG.out hbelow G3.out (fun e => by have := congrArg List.length e; simp at this)]; exact G4.out
          have KF : Hid ((t.forget (l2 ++ [s2])).find (l2 ++ [s2]) = none) := by
            show (t.forget (l2 ++ [s2])).find (l2 ++ [s2]) = none
            rw [find_forget HOK.out KG.out, if_pos rfl]
          have hdi : (t.forget (l2 ++ [s2])).isDir i = t.isDir i := isDir_forget HOK.out KG.out hbelow (by rw [← H2.out]; exact HI.out) hneq
          have KL : Hid ((t.forget (l2 ++ [s2])).isDir i = true → ¬ l ++ [s] <+: l2 ++ [s2]) := by
            show (t.forget (l2 ++ [s2])).isDir i = true → ¬ l ++ [s] <+: l2 ++ [s2]
            rw [hdi, ← H2.out, ← G2.out]; exact HNP.out
          have HLz : Hid ((t.forget (l2 ++ [s2])).links i ≤ 1000000) := by
            show (t.forget (l2 ++ [s2])).links i ≤ 1000000
            rw [forget_links HOK.out KG.out]
            have := HLk.out i
            omega
          have BND : Hid (φ i < w.heap.size ∧ μ a < w.heap.size) := ⟨HR.out.lt_thing HOK.out (has_idOf HOK.out HI.out), HR.out.lt_map HOK.out (has_idOf HOK.out H3.out) H4.out⟩
          have hbk : φ j < w.heap.size ∧ μ k < w.heap.size := ⟨HR.out.lt_thing HOK.out (has_idOf HOK.out HJ.out), HR.out.lt_map HOK.out (has_idOf HOK.out G3.out) G4.out⟩
          have h15 : w.heap.size ≤ w5.heap.size := HB5.out.size
          have h11 : w.heap.size ≤ w1.heap.size := HB1.out.size
          have HPz : Hid (wz.heap[w1.heap.size]? = some (.cells #[ptr (φ a), .string s] 90 (0, 0))) := hT3.heap HP7.out (by rintro (e | e) <;> omega)
          have HQz : Hid (wz.heap[w5.heap.size]? = some (.cells #[ptr (φ k), .string s2] 90 (0, 0))) := hT3.heap HQ7.out (by rintro (e | e) <;> omega)
          have HTz : Hid (Turn (Rep.dom B t φ μ) w wz) := (Turn.of_below HB7.out).trans hT3 (K1 := Rep.dom B t φ μ) (fun _ _ h => h) (fun b _ h => by
            rcases h with rfl | rfl
            · exact dom_map (has_idOf HOK.out G3.out) G4.out
            · exact dom_thing (has_idOf HOK.out HJ.out))
          have HDz : Hid (∀ b, Rep.dom B (t.forget (l2 ++ [s2])) φ μ b → Rep.dom B t φ μ b) := fun b h => dom_forget HOK.out KG.out hbelow h
          have HMz : Hid (t.rename p tt = ((t.forget (l2 ++ [s2])).move ((t.forget (l2 ++ [s2])).isDir i) (l ++ [s]) (l2 ++ [s2]), 0)) := by
            show t.rename p tt = ((t.forget (l2 ++ [s2])).move ((t.forget (l2 ++ [s2])).isDir i) (l ++ [s]) (l2 ++ [s2]), 0)
            rw [hdi, ← H2.out, ← G2.out]; exact HM.out
          clear hHz hat hneq hlne hdi hbk h15 h11 hbelow ho3 hm3' hb3 hT3 e0 e1
          have c0 : wz.cell? ⟨w1.heap.size, 0, none⟩ = some (ptr (φ a)) := cell_of_heap HPz.out rfl
          have c1 : wz.cell? ⟨w1.heap.size, 1, none⟩ = some (.string s) := cell_of_heap HPz.out rfl
          unfold ptr at c0
          obtain ⟨hda, la, hla, _⟩ := HRz.out.dir a l A3.out A4.out
          have HDA := Lib.hid hda
          have HLA := Lib.hid hla
          have hget : Hid (getM la s = some (φ i)) := by
            show getM la s = some (φ i)
            rw [HRz.out.entries A3.out A4.out hla, AF.out]; rfl
          obtain ⟨di, mi, hti⟩ := HRz.out.thing HOKz.out (has_idOf HOKz.out (find_idOf HOKz.out AF.out))
          have HTi := Lib.hid hti
          clear hda hla hti
          go_wp2_with fail
          refine (away_any HDA.out HLA.out hget.out HTi.out HLz.out (links_pos HOKz.out AF.out)).mono ?_
          rintro e wy ⟨rfl, ⟨o4, ho4, hm4'⟩, hb4, hT4⟩
          obtain ⟨⟨lk, hlk⟩, dd, dn, hdk⟩ := put_ready HRz.out HOKz.out A3.out A4.out AF.out K3.out K4.out KL.out ho4 hm4' hT4
          have h15 : w.heap.size ≤ w5.heap.size := HB5.out.size
          have hQy : wy.heap[w5.heap.size]? = some (.cells #[ptr (φ k), .string s2] 90 (0, 0)) := hT4.heap HQz.out (by
            have := BND.out
            rintro (e | e) <;> omega)
          have d0 : wy.cell? ⟨w5.heap.size, 0, none⟩ = some (ptr (φ k)) := cell_of_heap hQy rfl
          have d1 : wy.cell? ⟨w5.heap.size, 1, none⟩ = some (.string s2) := cell_of_heap hQy rfl
          unfold ptr at d0
          have Hlk := Lib.hid hlk
          have Hdk := Lib.hid hdk
          have Ho4 := Lib.hid ho4
          have Hm4 := Lib.hid hm4'
          have Hb4 := Lib.hid hb4
          have HT4 := Lib.hid hT4
          clear hlk hdk ho4 hm4' hb4 hT4 hQy h15 c0 c1
          go_wp2_with fail
          refine (put_any Hdk.out Hlk.out Hb4.out (Nat.le_trans (Nat.sub_le _ _) HLz.out)).mono ?_
          rintro e wx ⟨rfl, ⟨o5, ho5, hm5⟩, hb5, hT5⟩
          go_wp2
          go_ret
          obtain ⟨h1, h2⟩ := moved_rep HRz.out HOKz.out A3.out A4.out AF.out K3.out K4.out G5.out KF.out KL.out HLA.out Hlk.out HTi.out (links_pos HOKz.out AF.out) Ho4.out Hm4.out HT4.out ho5 hm5 hb5 hT5
          unfold OpPost
          rw [HMz.out]
          exact ⟨rfl, h1, HTz.out.trans h2 (fun _ _ h => h) (fun b hb h => HDz.out b h), fun b h => HDz.out b h⟩
        · have HD := Lib.hid hd
          clear hd hsk
          go_enter Tryz.func31, Tryz.ntmps31
          go_wp2_with fail
          refine (place_any HR.out HOK.out p hm hs).mono ?_
          rintro e w1 ⟨⟨v, s, rfl, hpl⟩, hb⟩
          obtain ⟨l, a, h1, h2, h3, h4, h5, rfl⟩ := hpl HC.out
          rw [HC.out]
          have HB1 := Lib.hid hb
          have HR1 := Lib.hid (HR.out.below hb)
          have H2 := Lib.hid h2
          have H3 := Lib.hid h3
          have H4 := Lib.hid h4
          clear hpl hb h1 h2 h3 h4 h5
          go_wp2_with fail
          refine (is_any (HR1.out.below ((Below.refl _ _).alloc (Nat.le_refl _) _)) H3.out H4.out s).mono ?_
          rintro e w2 ⟨rfl, hb2⟩
          have hb12 := below_next ((Below.refl w1.heap.size w1).alloc (Nat.le_refl _) _) hb2
          have HP2 : Hid (w2.heap[w1.heap.size]? = some (.cells #[ptr (φ a), .string s] 90 (0, 0))) := heap_below hb2 _ _ (heap_alloc_new w1 _)
          have HB2 := Lib.hid (below_next HB1.out hb12)
          have HR2 := Lib.hid (HR.out.below HB2.out)
          have hm2 := hm.below HB2.out
          rw [← H2.out, HF.out]
          clear hb2 hb12
          simp only [Option.map_some, ptrO, ptr]
          go_wp2_with fail
          refine (last_triple HL _ hm2 hs2).mono ?_
          rintro e w3 ⟨ad3, n3, rfl, _, hb⟩
          have HB3 := Lib.hid (below_next HB2.out hb)
          have HP3 := Lib.hid (heap_below hb _ _ HP2.out)
          have HR3 := Lib.hid (HR.out.below HB3.out)
          have hm3 := hm.below HB3.out
          clear hb
          go_wp2_with fail
          refine (under_pair HU _ hm3 hs hs2).mono ?_
          rintro e w4 ⟨rfl, hb⟩
          have HB4 := Lib.hid (below_next HB3.out hb)
          have HP4 := Lib.hid (heap_below hb _ _ HP3.out)
          have HR4 := Lib.hid (HR.out.below HB4.out)
          have hm4 := hm.below HB4.out
          clear hb
          have c2 := HR4.out.fileCell HOK.out HI.out HD.out
          cases n
          · go_wp2_with fail
            refine (place_any HR4.out HOK.out tt hm4 hs2).mono ?_
            rintro e w5 ⟨⟨v, s2, rfl, hpl⟩, hb⟩
            obtain ⟨l2, k, h1, h2, h3, h4, h5, rfl⟩ := hpl HC2.out
            rw [HC2.out]
            have HB5 := Lib.hid (below_next HB4.out hb)
            have HR5 := Lib.hid (HR.out.below HB5.out)
            have HP5 := Lib.hid (heap_below hb _ _ HP4.out)
            have G2 := Lib.hid h2
            have G3 := Lib.hid h3
            have G4 := Lib.hid h4
            have G5 := Lib.hid h5
            clear hpl hb h1 h2 h3 h4 h5
            go_wp2_with fail
            refine (is_any (HR5.out.below ((Below.refl _ _).alloc (Nat.le_refl _) _)) G3.out G4.out s2).mono ?_
            rintro e w6 ⟨rfl, hb2⟩
            have hb12 := below_next ((Below.refl w5.heap.size w5).alloc (Nat.le_refl _) _) hb2
            have HQ6 : Hid (w6.heap[w5.heap.size]? = some (.cells #[ptr (φ k), .string s2] 90 (0, 0))) := heap_below hb2 _ _ (heap_alloc_new w5 _)
            have HP6 := Lib.hid (heap_below hb12 _ _ HP5.out)
            have HB6 := Lib.hid (below_next HB5.out hb12)
            have HR6 := Lib.hid (HR.out.below HB6.out)
            have hm6 := hm.below HB6.out
            rw [← G2.out]
            clear hb2 hb12
            rw [HG.out]
            simp only [Option.map_some, ptrO, ptr]
            obtain ⟨_, _, hti6⟩ := HR6.out.thing HOK.out (has_idOf HOK.out HI.out)
            obtain ⟨_, _, htj6⟩ := HR6.out.thing HOK.out (has_idOf HOK.out HJ.out)
            have p3 := eql_other htj6 hti6 (fun e => HIJ.out (HR6.out.inj _ _ (has_idOf HOK.out HI.out) (has_idOf HOK.out HJ.out) e.symm))
            clear hti6 htj6
            go_wp2_with fail
            have hon := onto_any HR6.out HOK.out HI.out (full tt) HK.out
            rw [HG.out] at hon
            refine hon.mono ?_
            rintro e w7 ⟨rfl, hb⟩
            rw [HOC.out]
            have HB7 := Lib.hid (below_next HB6.out hb)
            have HR7 := Lib.hid (HR.out.below HB7.out)
            have HP7 := Lib.hid (heap_below hb _ _ HP6.out)
            have HQ7 := Lib.hid (heap_below hb _ _ HQ6.out)
            clear hb p3
            have e0 : w7.cell? ⟨w5.heap.size, 0, none⟩ = some (ptr (φ k)) := cell_of_heap HQ7.out rfl
            have e1 : w7.cell? ⟨w5.heap.size, 1, none⟩ = some (.string s2) := cell_of_heap HQ7.out rfl
            unfold ptr at e0
            have KG : Hid (t.find (l2 ++ [s2]) = some j) := by show t.find (l2 ++ [s2]) = some j; rw [← G2.out]; exact HG.out
            obtain ⟨hdk, lk, hlk, _⟩ := HR7.out.dir k l2 G3.out G4.out
            have HDK := Lib.hid hdk
            have HLK := Lib.hid hlk
            have hgetk : Hid (getM lk s2 = some (φ j)) := by
              show getM lk s2 = some (φ j)
              rw [HR7.out.entries G3.out G4.out hlk, KG.out]; rfl
            obtain ⟨dj, mj, htj⟩ := HR7.out.thing HOK.out (has_idOf HOK.out HJ.out)
            have HTj := Lib.hid htj
            clear hdk hlk htj
            go_wp2_with fail
            refine (away_any HDK.out HLK.out hgetk.out HTj.out (HLk.out j) (links_pos HOK.out KG.out)).mono ?_
            rintro e wz ⟨rfl, ⟨o3, ho3, hm3'⟩, hb3, hT3⟩
            have hbelow : ∀ s k, (l2 ++ [s2] ++ [s], k) ∉ t.names := by rw [← G2.out]; exact onto_below HOK.out HG.out HOC.out
            have hHz := HR7.out.forget HOK.out G3.out G4.out KG.out hbelow HLK.out (fun b o ho h1 h2 => hT3.heap ho (fun h => h.elim h1 h2)) HTj.out hb3 hm3' ho3
            have HRz := Lib.hid hHz
            have HOKz := Lib.hid (HOK.out.forget KG.out hbelow)
            have hneq : l ++ [s] ≠ l2 ++ [s2] := by
              rw [← H2.out, ← G2.out]
              intro e
              have h1 := HF.out
              rw [e, HG.out] at h1
              exact HIJ.out (Option.some.inj h1).symm
            have hat := forget_at HOK.out KG.out hbelow H3.out (by rw [← H2.out]; exact HF.out) hneq
            have A3 := Lib.hid hat.1
            have AF := Lib.hid hat.2
            have hlne : l ≠ l2 ++ [s2] := fun e => hbelow s i (by rw [← e, ← H2.out]; exact (find_mem HOK.out).1 HF.out)
            have A4 : Hid ((t.forget (l2 ++ [s2])).isDir a = true) := by
              show (t.forget (l2 ++ [s2])).isDir a = true
              rw [isDir_forget HOK.out KG.out hbelow H3.out hlne]; exact H4.out
            have K3 := Lib.hid (forget_up HOK.out KG.out G3.out)
            have K4 : Hid ((t.forget (l2 ++ [s2])).isDir k = true) := by
              show (t.forget (l2 ++ [s2])).isDir k = true
              rw [isDir_forget HOK.out KG.out hbelow G3.out (fun e => by have := congrArg List.length e; simp at this)]; exact G4.out
            have KF : Hid ((t.forget (l2 ++ [s2])).find (l2 ++ [s2]) = none) := by
              show (t.forget (l2 ++ [s2])).find (l2 ++ [s2]) = none
              rw [find_forget HOK.out KG.out, if_pos rfl]
            have hdi : (t.forget (l2 ++ [s2])).isDir i = t.isDir i := isDir_forget HOK.out KG.out hbelow (by rw [← H2.out]; exact HI.out) hneq
            have KL : Hid ((t.forget (l2 ++ [s2])).isDir i = true → ¬ l ++ [s] <+: l2 ++ [s2]) := by
              show (t.forget (l2 ++ [s2])).isDir i = true → ¬ l ++ [s] <+: l2 ++ [s2]
              rw [hdi, ← H2.out, ← G2.out]; exact HNP.out
            have HLz : Hid ((t.forget (l2 ++ [s2])).links i ≤ 1000000) := by
              show (t.forget (l2 ++ [s2])).links i ≤ 1000000
              rw [forget_links HOK.out KG.out]
              have := HLk.out i
              omega
            have BND : Hid (φ i < w.heap.size ∧ μ a < w.heap.size) := ⟨HR.out.lt_thing HOK.out (has_idOf HOK.out HI.out), HR.out.lt_map HOK.out (has_idOf HOK.out H3.out) H4.out⟩
            have hbk : φ j < w.heap.size ∧ μ k < w.heap.size := ⟨HR.out.lt_thing HOK.out (has_idOf HOK.out HJ.out), HR.out.lt_map HOK.out (has_idOf HOK.out G3.out) G4.out⟩
            have h15 : w.heap.size ≤ w5.heap.size := HB5.out.size
            have h11 : w.heap.size ≤ w1.heap.size := HB1.out.size
            have HPz : Hid (wz.heap[w1.heap.size]? = some (.cells #[ptr (φ a), .string s] 90 (0, 0))) := hT3.heap HP7.out (by rintro (e | e) <;> omega)
            have HQz : Hid (wz.heap[w5.heap.size]? = some (.cells #[ptr (φ k), .string s2] 90 (0, 0))) := hT3.heap HQ7.out (by rintro (e | e) <;> omega)
            have HTz : Hid (Turn (Rep.dom B t φ μ) w wz) := (Turn.of_below HB7.out).trans hT3 (K1 := Rep.dom B t φ μ) (fun _ _ h => h) (fun b _ h => by
              rcases h with rfl | rfl
              · exact dom_map (has_idOf HOK.out G3.out) G4.out
              · exact dom_thing (has_idOf HOK.out HJ.out))
            have HDz : Hid (∀ b, Rep.dom B (t.forget (l2 ++ [s2])) φ μ b → Rep.dom B t φ μ b) := fun b h => dom_forget HOK.out KG.out hbelow h
            have HMz : Hid (t.rename p tt = ((t.forget (l2 ++ [s2])).move ((t.forget (l2 ++ [s2])).isDir i) (l ++ [s]) (l2 ++ [s2]), 0)) := by
              show t.rename p tt = ((t.forget (l2 ++ [s2])).move ((t.forget (l2 ++ [s2])).isDir i) (l ++ [s]) (l2 ++ [s2]), 0)
              rw [hdi, ← H2.out, ← G2.out]; exact HM.out
            clear hHz hat hneq hlne hdi hbk h15 h11 hbelow ho3 hm3' hb3 hT3 e0 e1
            have c0 : wz.cell? ⟨w1.heap.size, 0, none⟩ = some (ptr (φ a)) := cell_of_heap HPz.out rfl
            have c1 : wz.cell? ⟨w1.heap.size, 1, none⟩ = some (.string s) := cell_of_heap HPz.out rfl
            unfold ptr at c0
            obtain ⟨hda, la, hla, _⟩ := HRz.out.dir a l A3.out A4.out
            have HDA := Lib.hid hda
            have HLA := Lib.hid hla
            have hget : Hid (getM la s = some (φ i)) := by
              show getM la s = some (φ i)
              rw [HRz.out.entries A3.out A4.out hla, AF.out]; rfl
            obtain ⟨di, mi, hti⟩ := HRz.out.thing HOKz.out (has_idOf HOKz.out (find_idOf HOKz.out AF.out))
            have HTi := Lib.hid hti
            clear hda hla hti
            go_wp2_with fail
            refine (away_any HDA.out HLA.out hget.out HTi.out HLz.out (links_pos HOKz.out AF.out)).mono ?_
            rintro e wy ⟨rfl, ⟨o4, ho4, hm4'⟩, hb4, hT4⟩
            obtain ⟨⟨lk, hlk⟩, dd, dn, hdk⟩ := put_ready HRz.out HOKz.out A3.out A4.out AF.out K3.out K4.out KL.out ho4 hm4' hT4
            have h15 : w.heap.size ≤ w5.heap.size := HB5.out.size
            have hQy : wy.heap[w5.heap.size]? = some (.cells #[ptr (φ k), .string s2] 90 (0, 0)) := hT4.heap HQz.out (by
              have := BND.out
              rintro (e | e) <;> omega)
            have d0 : wy.cell? ⟨w5.heap.size, 0, none⟩ = some (ptr (φ k)) := cell_of_heap hQy rfl
            have d1 : wy.cell? ⟨w5.heap.size, 1, none⟩ = some (.string s2) := cell_of_heap hQy rfl
            unfold ptr at d0
            have Hlk := Lib.hid hlk
            have Hdk := Lib.hid hdk
            have Ho4 := Lib.hid ho4
            have Hm4 := Lib.hid hm4'
            have Hb4 := Lib.hid hb4
            have HT4 := Lib.hid hT4
            clear hlk hdk ho4 hm4' hb4 hT4 hQy h15 c0 c1
            go_wp2_with fail
            refine (put_any Hdk.out Hlk.out Hb4.out (Nat.le_trans (Nat.sub_le _ _) HLz.out)).mono ?_
            rintro e wx ⟨rfl, ⟨o5, ho5, hm5⟩, hb5, hT5⟩
            go_wp2
            go_ret
            obtain ⟨h1, h2⟩ := moved_rep HRz.out HOKz.out A3.out A4.out AF.out K3.out K4.out G5.out KF.out KL.out HLA.out Hlk.out HTi.out (links_pos HOKz.out AF.out) Ho4.out Hm4.out HT4.out ho5 hm5 hb5 hT5
            unfold OpPost
            rw [HMz.out]
            exact ⟨rfl, h1, HTz.out.trans h2 (fun _ _ h => h) (fun b hb h => HDz.out b h), fun b h => HDz.out b h⟩
          · go_wp2_with fail
            refine (place_any HR4.out HOK.out tt hm4 hs2).mono ?_
            rintro e w5 ⟨⟨v, s2, rfl, hpl⟩, hb⟩
            obtain ⟨l2, k, h1, h2, h3, h4, h5, rfl⟩ := hpl HC2.out
            rw [HC2.out]
            have HB5 := Lib.hid (below_next HB4.out hb)
            have HR5 := Lib.hid (HR.out.below HB5.out)
            have HP5 := Lib.hid (heap_below hb _ _ HP4.out)
            have G2 := Lib.hid h2
            have G3 := Lib.hid h3
            have G4 := Lib.hid h4
            have G5 := Lib.hid h5
            clear hpl hb h1 h2 h3 h4 h5
            go_wp2_with fail
            refine (is_any (HR5.out.below ((Below.refl _ _).alloc (Nat.le_refl _) _)) G3.out G4.out s2).mono ?_
            rintro e w6 ⟨rfl, hb2⟩
            have hb12 := below_next ((Below.refl w5.heap.size w5).alloc (Nat.le_refl _) _) hb2
            have HQ6 : Hid (w6.heap[w5.heap.size]? = some (.cells #[ptr (φ k), .string s2] 90 (0, 0))) := heap_below hb2 _ _ (heap_alloc_new w5 _)
            have HP6 := Lib.hid (heap_below hb12 _ _ HP5.out)
            have HB6 := Lib.hid (below_next HB5.out hb12)
            have HR6 := Lib.hid (HR.out.below HB6.out)
            have hm6 := hm.below HB6.out
            rw [← G2.out]
            clear hb2 hb12
            rw [HG.out]
            simp only [Option.map_some, ptrO, ptr]
            obtain ⟨_, _, hti6⟩ := HR6.out.thing HOK.out (has_idOf HOK.out HI.out)
            obtain ⟨_, _, htj6⟩ := HR6.out.thing HOK.out (has_idOf HOK.out HJ.out)
            have p3 := eql_other htj6 hti6 (fun e => HIJ.out (HR6.out.inj _ _ (has_idOf HOK.out HI.out) (has_idOf HOK.out HJ.out) e.symm))
            clear hti6 htj6
            go_wp2_with fail
            have hon := onto_any HR6.out HOK.out HI.out (full tt) HK.out
            rw [HG.out] at hon
            refine hon.mono ?_
            rintro e w7 ⟨rfl, hb⟩
            rw [HOC.out]
            have HB7 := Lib.hid (below_next HB6.out hb)
            have HR7 := Lib.hid (HR.out.below HB7.out)
            have HP7 := Lib.hid (heap_below hb _ _ HP6.out)
            have HQ7 := Lib.hid (heap_below hb _ _ HQ6.out)
            clear hb p3
            have e0 : w7.cell? ⟨w5.heap.size, 0, none⟩ = some (ptr (φ k)) := cell_of_heap HQ7.out rfl
            have e1 : w7.cell? ⟨w5.heap.size, 1, none⟩ = some (.string s2) := cell_of_heap HQ7.out rfl
            unfold ptr at e0
            have KG : Hid (t.find (l2 ++ [s2]) = some j) := by show t.find (l2 ++ [s2]) = some j; rw [← G2.out]; exact HG.out
            obtain ⟨hdk, lk, hlk, _⟩ := HR7.out.dir k l2 G3.out G4.out
            have HDK := Lib.hid hdk
            have HLK := Lib.hid hlk
            have hgetk : Hid (getM lk s2 = some (φ j)) := by
              show getM lk s2 = some (φ j)
              rw [HR7.out.entries G3.out G4.out hlk, KG.out]; rfl
            obtain ⟨dj, mj, htj⟩ := HR7.out.thing HOK.out (has_idOf HOK.out HJ.out)
            have HTj := Lib.hid htj
            clear hdk hlk htj
            go_wp2_with fail
            refine (away_any HDK.out HLK.out hgetk.out HTj.out (HLk.out j) (links_pos HOK.out KG.out)).mono ?_
            rintro e wz ⟨rfl, ⟨o3, ho3, hm3'⟩, hb3, hT3⟩
            have hbelow : ∀ s k, (l2 ++ [s2] ++ [s], k) ∉ t.names := by rw [← G2.out]; exact onto_below HOK.out HG.out HOC.out
            have hHz := HR7.out.forget HOK.out G3.out G4.out KG.out hbelow HLK.out (fun b o ho h1 h2 => hT3.heap ho (fun h => h.elim h1 h2)) HTj.out hb3 hm3' ho3
            have HRz := Lib.hid hHz
            have HOKz := Lib.hid (HOK.out.forget KG.out hbelow)
            have hneq : l ++ [s] ≠ l2 ++ [s2] := by
              rw [← H2.out, ← G2.out]
              intro e
              have h1 := HF.out
              rw [e, HG.out] at h1
              exact HIJ.out (Option.some.inj h1).symm
            have hat := forget_at HOK.out KG.out hbelow H3.out (by rw [← H2.out]; exact HF.out) hneq
            have A3 := Lib.hid hat.1
            have AF := Lib.hid hat.2
            have hlne : l ≠ l2 ++ [s2] := fun e => hbelow s i (by rw [← e, ← H2.out]; exact (find_mem HOK.out).1 HF.out)
            have A4 : Hid ((t.forget (l2 ++ [s2])).isDir a = true) := by
              show (t.forget (l2 ++ [s2])).isDir a = true
              rw [isDir_forget HOK.out KG.out hbelow H3.out hlne]; exact H4.out
            have K3 := Lib.hid (forget_up HOK.out KG.out G3.out)
            have K4 : Hid ((t.forget (l2 ++ [s2])).isDir k = true) := by
              show (t.forget (l2 ++ [s2])).isDir k = true
              rw [isDir_forget HOK.out KG.out hbelow G3.out (fun e => by have := congrArg List.length e; simp at this)]; exact G4.out
            have KF : Hid ((t.forget (l2 ++ [s2])).find (l2 ++ [s2]) = none) := by
              show (t.forget (l2 ++ [s2])).find (l2 ++ [s2]) = none
              rw [find_forget HOK.out KG.out, if_pos rfl]
            have hdi : (t.forget (l2 ++ [s2])).isDir i = t.isDir i := isDir_forget HOK.out KG.out hbelow (by rw [← H2.out]; exact HI.out) hneq
            have KL : Hid ((t.forget (l2 ++ [s2])).isDir i = true → ¬ l ++ [s] <+: l2 ++ [s2]) := by
              show (t.forget (l2 ++ [s2])).isDir i = true → ¬ l ++ [s] <+: l2 ++ [s2]
              rw [hdi, ← H2.out, ← G2.out]; exact HNP.out
            have HLz : Hid ((t.forget (l2 ++ [s2])).links i ≤ 1000000) := by
              show (t.forget (l2 ++ [s2])).links i ≤ 1000000
              rw [forget_links HOK.out KG.out]
              have := HLk.out i
              omega
            have BND : Hid (φ i < w.heap.size ∧ μ a < w.heap.size) := ⟨HR.out.lt_thing HOK.out (has_idOf HOK.out HI.out), HR.out.lt_map HOK.out (has_idOf HOK.out H3.out) H4.out⟩
            have hbk : φ j < w.heap.size ∧ μ k < w.heap.size := ⟨HR.out.lt_thing HOK.out (has_idOf HOK.out HJ.out), HR.out.lt_map HOK.out (has_idOf HOK.out G3.out) G4.out⟩
            have h15 : w.heap.size ≤ w5.heap.size := HB5.out.size
            have h11 : w.heap.size ≤ w1.heap.size := HB1.out.size
            have HPz : Hid (wz.heap[w1.heap.size]? = some (.cells #[ptr (φ a), .string s] 90 (0, 0))) := hT3.heap HP7.out (by rintro (e | e) <;> omega)
            have HQz : Hid (wz.heap[w5.heap.size]? = some (.cells #[ptr (φ k), .string s2] 90 (0, 0))) := hT3.heap HQ7.out (by rintro (e | e) <;> omega)
            have HTz : Hid (Turn (Rep.dom B t φ μ) w wz) := (Turn.of_below HB7.out).trans hT3 (K1 := Rep.dom B t φ μ) (fun _ _ h => h) (fun b _ h => by
              rcases h with rfl | rfl
              · exact dom_map (has_idOf HOK.out G3.out) G4.out
              · exact dom_thing (has_idOf HOK.out HJ.out))
            have HDz : Hid (∀ b, Rep.dom B (t.forget (l2 ++ [s2])) φ μ b → Rep.dom B t φ μ b) := fun b h => dom_forget HOK.out KG.out hbelow h
            have HMz : Hid (t.rename p tt = ((t.forget (l2 ++ [s2])).move ((t.forget (l2 ++ [s2])).isDir i) (l ++ [s]) (l2 ++ [s2]), 0)) := by
              show t.rename p tt = ((t.forget (l2 ++ [s2])).move ((t.forget (l2 ++ [s2])).isDir i) (l ++ [s]) (l2 ++ [s2]), 0)
              rw [hdi, ← H2.out, ← G2.out]; exact HM.out
            clear hHz hat hneq hlne hdi hbk h15 h11 hbelow ho3 hm3' hb3 hT3 e0 e1
            have c0 : wz.cell? ⟨w1.heap.size, 0, none⟩ = some (ptr (φ a)) := cell_of_heap HPz.out rfl
            have c1 : wz.cell? ⟨w1.heap.size, 1, none⟩ = some (.string s) := cell_of_heap HPz.out rfl
            unfold ptr at c0
            obtain ⟨hda, la, hla, _⟩ := HRz.out.dir a l A3.out A4.out
            have HDA := Lib.hid hda
            have HLA := Lib.hid hla
            have hget : Hid (getM la s = some (φ i)) := by
              show getM la s = some (φ i)
              rw [HRz.out.entries A3.out A4.out hla, AF.out]; rfl
            obtain ⟨di, mi, hti⟩ := HRz.out.thing HOKz.out (has_idOf HOKz.out (find_idOf HOKz.out AF.out))
            have HTi := Lib.hid hti
            clear hda hla hti
            go_wp2_with fail
            refine (away_any HDA.out HLA.out hget.out HTi.out HLz.out (links_pos HOKz.out AF.out)).mono ?_
            rintro e wy ⟨rfl, ⟨o4, ho4, hm4'⟩, hb4, hT4⟩
            obtain ⟨⟨lk, hlk⟩, dd, dn, hdk⟩ := put_ready HRz.out HOKz.out A3.out A4.out AF.out K3.out K4.out KL.out ho4 hm4' hT4
            have h15 : w.heap.size ≤ w5.heap.size := HB5.out.size
            have hQy : wy.heap[w5.heap.size]? = some (.cells #[ptr (φ k), .string s2] 90 (0, 0)) := hT4.heap HQz.out (by
              have := BND.out
              rintro (e | e) <;> omega)
            have d0 : wy.cell? ⟨w5.heap.size, 0, none⟩ = some (ptr (φ k)) := cell_of_heap hQy rfl
            have d1 : wy.cell? ⟨w5.heap.size, 1, none⟩ = some (.string s2) := cell_of_heap hQy rfl
            unfold ptr at d0
            have Hlk := Lib.hid hlk
            have Hdk := Lib.hid hdk
            have Ho4 := Lib.hid ho4
            have Hm4 := Lib.hid hm4'
            have Hb4 := Lib.hid hb4
            have HT4 := Lib.hid hT4
            clear hlk hdk ho4 hm4' hb4 hT4 hQy h15 c0 c1
            go_wp2_with fail
            refine (put_any Hdk.out Hlk.out Hb4.out (Nat.le_trans (Nat.sub_le _ _) HLz.out)).mono ?_
            rintro e wx ⟨rfl, ⟨o5, ho5, hm5⟩, hb5, hT5⟩
            go_wp2
            go_ret
            obtain ⟨h1, h2⟩ := moved_rep HRz.out HOKz.out A3.out A4.out AF.out K3.out K4.out G5.out KF.out KL.out HLA.out Hlk.out HTi.out (links_pos HOKz.out AF.out) Ho4.out Hm4.out HT4.out ho5 hm5 hb5 hT5
            unfold OpPost
            rw [HMz.out]
            exact ⟨rfl, h1, HTz.out.trans h2 (fun _ _ h => h) (fun b hb h => HDz.out b h), fun b h => HDz.out b h⟩
end
end Go.Proofs.YtcgpmnlondnbhaaGreatDoor

namespace Go.Proofs.YtcgpmnlondnbhaaGreatDoor
open Go Go.RowKit Txt

def byteV (l : List UInt8) : List Value := l.map (fun b => Value.int .u8 (b.toNat : Int))
/-- A block of bytes. -/
def rowO (l : List UInt8) (e : TypeId) : Obj := .cells (byteV l).toArray e (0, 0)

section
variable {P : Program}
theorem byteV_length (l : List UInt8) : (byteV l).length = l.length := List.length_map _
theorem byteV_one {l : List UInt8} : ∀ v ∈ byteV l, v.oneCell' = true := by
  intro v hv
  obtain ⟨b, _, rfl⟩ := List.mem_map.1 hv
  rfl

theorem run_make_row (w : World) {t e : TypeId} {i : TypeInfo} (ht : P.underlying t = some (.slice e)) (hi : P.info? e = some i) (hz : i.zero = some (.int .u8 0)) (h1 : i.size = 1) (hb : i.bytes = 1) (n : Nat) (hn : n ≤ 4000000000) :
    (Instr.makeSlice t (.int .i64 (n : Int)) (.int .i64 (n : Int))).run P w = .ok (.slice (some ⟨w.heap.size, 0, none⟩) n n) (w.alloc (rowO (List.replicate n 0) e)) := by
  have h := run_make (P := P) w t e i _ ht hi hz .i64 .i64 (n : Int) (n : Int) (by omega) (Int.le_refl _) (by rw [hb]; omega) (by omega)
  rw [h, h1, Int.toNat_natCast, Nat.mul_one]
  have : madeCells (Value.int .u8 0).cells n = (byteV (List.replicate n 0)).toArray := by
    apply Array.toList_inj.1
    show (madeCells #[Value.int .u8 0] n).toList = _
    rw [toList_madeCells_one]
    simp [byteV]
  rw [this]
  rfl

theorem run_copy_text (w : World) {dT sT ty e : TypeId} (hu : P.underlying dT = some (.slice e)) (hs : (P.info? e).map (·.size) = some 1) {g : Nat} {l : List UInt8} (hg : w.heap[g]? = some (rowO l e)) (s : ByteArray) (cap : Nat) :
    (Builtin.copy_ #[dT, sT] ty #[.slice (some ⟨g, 0, none⟩) l.length cap, .string s]).run P w =
      .ok (goInt (Nat.min s.size l.length)) (w.setRow g (byteV (s.data.toList.take l.length ++ l.drop s.size)).toArray) := by
  have hsz : s.data.toList.length = s.size := Array.length_toList
  have hcs : List.take (s.size.min l.length) (List.map (fun b : UInt8 => Value.int .u8 (b.toNat : Int)) s.data.toList) = byteV (s.data.toList.take l.length) := by
    unfold byteV
    rw [List.map_take]
    rcases Nat.le_total s.size l.length with h | h
    · rw [show s.size.min l.length = s.size from Nat.min_eq_left h, List.take_of_length_le (by rw [List.length_map, hsz]; exact Nat.le_refl _), List.take_of_length_le (by rw [List.length_map, hsz]; exact h)]
    · rw [show s.size.min l.length = l.length from Nat.min_eq_right h]
  have hst := run_storeCells_at P g 0 e (byteV (s.data.toList.take l.length)) 0 (byteV l).toArray w hg (by rw [byteV_length]; simp [byteV_length]; omega) byteV_one
  have hres : (byteV l).take 0 ++ byteV (s.data.toList.take l.length) ++ (byteV l).drop (0 + (byteV (s.data.toList.take l.length)).length) = byteV (s.data.toList.take l.length ++ l.drop s.size) := by
    unfold byteV
    rw [List.take_zero, List.nil_append, List.map_append, List.length_map, Nat.zero_add, ← List.map_drop]
    congr 2
    rw [List.length_take]
    rcases Nat.le_total l.length s.data.toList.length with h | h
    · rw [Nat.min_eq_left h, List.drop_of_length_le (Nat.le_refl _), List.drop_of_length_le (by rw [← hsz]; exact h)]
    · rw [Nat.min_eq_right h, hsz]
  cases hq : P.info? e with
  | none => simp [hq] at hs
  | some i =>
    simp only [Nat.zero_add, Nat.add_zero, List.take_zero] at hst hres
    rw [hres] at hst
    simp [Builtin.copy_, run_underlying hu, Builtin.lenOf, Builtin.firstCells, sizeOf, typeInfo, hq, hcs, hst]

theorem run_row_text (w : World) {src dst e : TypeId} (hs : P.underlying src = some (.slice e)) (he : P.underlying e = some (.int .u8)) (hd : P.underlying dst = some .string) {g : Nat} {l : List UInt8} (hg : w.heap[g]? = some (rowO l e)) (cap : Nat) :
    (convert src dst (.slice (some ⟨g, 0, none⟩) l.length cap)).run P w = .ok (.string (ofL l)) w :=
  run_convert_bytes_back w src dst e ⟨g, 0, none⟩ cap l hs he hd (fun j hj => by
    have hadd : (⟨g, 0, none⟩ : Addr).add j = ⟨g, j, none⟩ := by unfold Addr.add; split <;> simp_all
    rw [hadd]
    refine cell_of_heap hg ?_
    simp [byteV, List.getElem?_eq_getElem hj])
end
end Go.Proofs.YtcgpmnlondnbhaaGreatDoor

namespace Go.Proofs.YtcgpmnlondnbhaaGreatDoor
open Go Go.RowKit Txt Sp

theorem st_bytes : Tryz.prog.underlying 111 = some (.slice 5) := by kernel_rfl
theorem ut_byte : Tryz.prog.underlying 5 = some (.int .u8) := by kernel_rfl
theorem ut_string : Tryz.prog.underlying 9 = some .string := by kernel_rfl
theorem info_byte0 : (Tryz.prog.info? 5).map (fun j => (j.zero, j.size, j.bytes)) = some (some (.int .u8 0), 1, 1) := by kernel_rfl
theorem info_byte : ∃ j, Tryz.prog.info? 5 = some j ∧ j.zero = some (.int .u8 0) ∧ j.size = 1 ∧ j.bytes = 1 := by
  obtain ⟨j, h1, h2⟩ := Option.map_eq_some_iff.1 info_byte0
  exact ⟨j, h1, congrArg (·.1) h2, congrArg (·.2.1) h2, congrArg (·.2.2) h2⟩

section
set_option maxHeartbeats 1000000
theorem file_any {w : World} {B : Nat} {t : Sp.Tree} {φ μ : Nat → Nat} (hR : Rep w B t φ μ) (hok : t.Ok) (p : ByteArray) (hm : MaxOk w) (hs : p.size ≤ 4000000000) :
    Calls Tryz.prog 32 #[ptr B, .string p] w fun e w' => e = .returned (.tuple #[thingV φ (t.file p), .int .i64 (t.file p).2]) ∧ Below w.heap.size w w' := by
  have m1 := fun (r : Option Nat) (w : World) => run_eql_map_nil (P := Tryz.prog) w 55 _ _ r ht_map
  have m2 := fun (r : Option Nat) (w : World) => run_neq_map_nil (P := Tryz.prog) w 55 _ _ r ht_map
  have HR := Lib.hid hR
  have HOK := Lib.hid hok
  obtain ⟨i, c, hat⟩ : ∃ i c, t.at p = (i, c) := ⟨_, _, rfl⟩
  have HAT := Lib.hid hat
  clear hR hok hat
  by_cases h0 : c = 0
  · subst h0
    have HI : Hid (t.idOf (full p) = some i) := by
      have h := (at_ok t (path := p) (by rw [HAT.out])).2.2
      rw [HAT.out] at h
      exact h
    cases hd : t.isDir i with
    | true =>
      have HM : Hid (t.file p = (0, 102)) := by show t.file p = _; unfold Sp.Tree.file; rw [HAT.out, if_pos rfl, if_pos hd]
      have HD := Lib.hid hd
      clear hd
      go_enter Tryz.func32, Tryz.ntmps32
      go_wp2_with fail
      refine (tat_any HR.out HOK.out p hm hs).mono ?_
      rintro e w1 ⟨rfl, hb⟩
      rw [HAT.out, thingV_ok rfl]
      have HB := Lib.hid hb
      have c2 := (HR.out.below hb).dirCell HI.out HD.out
      clear hb
      unfold ptr
      go_wp2
      go_ret2
      rw [HM.out]
      exact ⟨rfl, HB.out⟩
    | false =>
      have HM : Hid (t.file p = (i, 0)) := by show t.file p = _; unfold Sp.Tree.file; rw [HAT.out, if_pos rfl, hd, if_neg (by simp)]
      have HD := Lib.hid hd
      clear hd
      go_enter Tryz.func32, Tryz.ntmps32
      go_wp2_with fail
      refine (tat_any HR.out HOK.out p hm hs).mono ?_
      rintro e w1 ⟨rfl, hb⟩
      rw [HAT.out, thingV_ok rfl]
      have HB := Lib.hid hb
      have c2 := (HR.out.below hb).fileCell HOK.out HI.out HD.out
      clear hb
      unfold ptr
      go_wp2
      go_ret2
      rw [HM.out]
      exact ⟨rfl, HB.out⟩
  · have HM : Hid (t.file p = (0, c)) := by show t.file p = _; unfold Sp.Tree.file; rw [HAT.out, if_neg h0]
    have hc0 : (c == 0) = false := beq_eq_false_iff_ne.2 h0
    have HV := Lib.hid (thingV_err (φ := φ) HAT.out h0)
    have HV2 := Lib.hid (thingV_err (φ := φ) HM.out h0)
    clear h0
    go_enter Tryz.func32, Tryz.ntmps32
    go_wp2_with fail
    refine (tat_any HR.out HOK.out p hm hs).mono ?_
    rintro e w1 ⟨rfl, hb⟩
    rw [HV.out, HAT.out]
    have HB := Lib.hid hb
    clear hb
    go_wp2
    go_ret2
    rw [HV2.out, HM.out]
    exact ⟨rfl, HB.out⟩

theorem stretch_any {w : World} {b : Nat} {d : ByteArray} {n : Nat} {m : Option Nat} (hb : w.heap[b]? = some (thingO d n m)) (long : Nat) (hl : long ≤ 1000000) :
    Calls Tryz.prog 56 #[ptr b, .int .i64 (long : Int)] w fun e w' => e = .returned (.tuple #[]) ∧ w'.heap[b]? = some (thingO (ofL (stretch d.data.toList long)) n m) ∧ Turn (fun k => k = b) w w' := by
  obtain ⟨j, j1, j2, j3, j4⟩ := info_byte
  have hlt : b < w.heap.size := (Array.getElem?_eq_some_iff.1 hb).1
  have mk := run_make_row w st_bytes j1 j2 j3 j4 long (by omega)
  obtain ⟨W, hW⟩ : ∃ W, w.alloc (rowO (List.replicate long 0) 5) = W := ⟨_, rfl⟩
  have hrow : W.heap[w.heap.size]? = some (rowO (List.replicate long 0) 5) := by rw [← hW]; exact heap_alloc_new w _
  have hbW : W.heap[b]? = some (thingO d n m) := by rw [← hW]; exact heap_below ((Below.refl _ _).alloc (Nat.le_refl _) _) _ _ hb
  have c0 : W.cell? ⟨b, 0, none⟩ = some (.string d) := cell_of_heap hbW rfl
  have cp := run_copy_text (P := Tryz.prog) (dT := 111) (sT := 9) (ty := 3) W st_bytes (by rw [j1]; exact congrArg some j3) hrow d long
  rw [List.length_replicate] at cp
  have hlen : (d.data.toList.take long ++ (List.replicate long (0 : UInt8)).drop d.size).length = long := by
    have hsz : d.data.toList.length = d.size := Array.length_toList
    simp
    rw [← hsz]
    simp
    omega
  have hst : d.data.toList.take long ++ (List.replicate long (0 : UInt8)).drop d.size = stretch d.data.toList long := by
    unfold stretch
    rw [List.drop_replicate]
    rfl
  rw [hst] at cp hlen
  obtain ⟨W2, hW2⟩ : ∃ W2, W.setRow w.heap.size (byteV (stretch d.data.toList long)).toArray = W2 := ⟨_, rfl⟩
  rw [hW2] at cp
  have hrow2 : W2.heap[w.heap.size]? = some (rowO (stretch d.data.toList long) 5) := by rw [← hW2]; exact setRow_heap _ _ _ _ _ _ hrow
  have hne : b ≠ w.heap.size := Nat.ne_of_lt hlt
  have hbW2 : W2.heap[b]? = some (thingO d n m) := by rw [← hW2, setRow_other _ _ _ _ hne]; exact hbW
  have cv := run_row_text W2 st_bytes ut_byte ut_string hrow2 long
  rw [hlen] at cv
  have f2 : W2.frozen? ⟨b, 0, none⟩ = false := free_of_heap hbW2
  have c2 : W2.cell? ⟨b, 0, none⟩ = some (.string d) := cell_of_heap hbW2 rfl
  have HT : Hid (Turn (fun k => k = b) w (W2.setCell ⟨b, 0, none⟩ (.string (ofL (stretch d.data.toList long))))) := by
    have h1 : Below w.heap.size w W2 := by
      rw [← hW2, ← hW]
      exact below_setRow ((Below.refl _ _).alloc (Nat.le_refl _) _) (Nat.le_refl _) _
    exact ⟨h1.os, h1.tape, h1.output, by rw [size_setCell]; exact h1.size, fun k hk hn => by rw [heap_setCell_ne _ hn]; exact h1.block k hk⟩
  have Hb := Lib.hid hbW2
  rw [hW] at mk
  clear hW hb j1 j2 j3 j4 hW2 hrow hrow2 hbW hbW2 hlen hst hne hlt
  generalize stretch d.data.toList long = L at *
  unfold ptr
  go_enter Tryz.func56, Tryz.ntmps56
  go_wp2
  go_end0
  exact ⟨rfl, heap_setCell_at Hb.out _, HT.out⟩
end
end Go.Proofs.YtcgpmnlondnbhaaGreatDoor

namespace Go.Proofs.YtcgpmnlondnbhaaGreatDoor
open Go Go.RowKit Txt Sp

/-- An operation as the program holds it. -/
def opV (o : Sp.Op) : Value := .agg #[.int .i64 o.kind, .string o.path, .string o.to, .int .i64 o.off, .int .i64 o.len, .string o.data]
/-- What may come: ints are ints, texts are not endless. -/
structure OpOk (o : Sp.Op) : Prop where
  path : o.path.size ≤ 4000000000
  dest : o.to.size ≤ 4000000000
  data : o.data.size ≤ 9223372036854775807
  off : -9223372036854775808 ≤ o.off ∧ o.off ≤ 9223372036854775807
  len : -9223372036854775808 ≤ o.len ∧ o.len ≤ 9223372036854775807
  kind : -9223372036854775808 ≤ o.kind ∧ o.kind ≤ 9223372036854775807

/-- What reading, writing, cutting makes of bytes: the new ones; what is told; the code. -/
def bytesD (d : ByteArray) (o : Sp.Op) : ByteArray × ByteArray × Int :=
  if o.kind = 7 then
    (if o.off < 0 ∨ o.len < 0 then (d, ofL [], 1) else (d, ofL (piece d.data.toList o.off.toNat o.len.toNat), 0))
  else if o.kind = 8 then
    (if o.off < 0 then (d, ofL [], 1) else if o.off > 2560 ∨ (o.data.size : Int) > 2560 - o.off then (d, ofL [], 106) else
      if o.data.size = 0 then (d, ofL [], 0) else (ofL (writeL d.data.toList o.off.toNat o.data.data.toList), ofL [], 0))
  else
    (if o.len < 0 then (d, ofL [], 1) else if o.len > 2560 then (d, ofL [], 106) else (ofL (stretch d.data.toList o.len.toNat), ofL [], 0))

theorem extract_data (s : ByteArray) (a b : Nat) : (s.extract a b).data.toList = (s.data.toList.drop a).take (b - a) := by
  simp [List.extract]
theorem piece_eq (d : ByteArray) {off len : Int} (h1 : 0 ≤ off) (h2 : 0 ≤ len) :
    (d.extract (min off (d.size : Int)).toNat d.size).extract 0 (min len ((d.size - (min off (d.size : Int)).toNat : Nat) : Int)).toNat = ofL (piece d.data.toList off.toNat len.toNat) := by
  have hsz : d.data.toList.length = d.size := Array.length_toList
  refine Txt.ext ?_
  rw [extract_data, extract_data, ofL_data, List.drop_zero, Nat.sub_zero]
  unfold piece
  obtain ⟨a, rfl⟩ := Int.eq_ofNat_of_zero_le h1
  obtain ⟨l, rfl⟩ := Int.eq_ofNat_of_zero_le h2
  have e1 : (min (a : Int) (d.size : Int)).toNat = min a d.size := by omega
  rw [e1]
  have e2 : (min (l : Int) ((d.size - min a d.size : Nat) : Int)).toNat = min l (d.size - min a d.size) := by omega
  rw [e2, Int.toNat_natCast, Int.toNat_natCast]
  rcases Nat.le_total a d.size with h | h
  · rw [Nat.min_eq_left h, List.take_take, ← List.take_eq_take_iff.2]
    rw [List.length_drop, hsz]
    omega
  · rw [Nat.min_eq_right h, List.drop_of_length_le (by rw [hsz]; exact Nat.le_refl _), List.drop_of_length_le (by rw [hsz]; exact h)]
    simp

theorem stretch_cut (d : ByteArray) {m : Nat} (h : m ≤ d.size) : stretch (d.extract 0 m).data.toList m = stretch d.data.toList m := by
  have hsz : d.data.toList.length = d.size := Array.length_toList
  unfold stretch
  rw [extract_data, List.drop_zero, Nat.sub_zero, List.take_take, Nat.min_self, List.length_take, hsz, Nat.min_eq_left h, Nat.sub_self, Nat.sub_eq_zero_of_le h]

theorem stretch_length (d : List UInt8) (m : Nat) : (stretch d m).length = m := by
  unfold stretch
  simp
  omega
theorem stretch_size (d : ByteArray) (m : Nat) : (ofL (stretch d.data.toList m)).size = m := by
  show (ofL (stretch d.data.toList m)).data.size = m
  rw [← Array.length_toList, ofL_data, stretch_length]

theorem write_eq (d data : ByteArray) (a : Nat) {S : ByteArray} (hS : ofL (stretch d.data.toList (max d.size (a + data.size))) = S) :
    S.extract 0 a ++ data ++ S.extract (a + data.size) S.size = ofL (writeL d.data.toList a data.data.toList) := by
  have hsz : ∀ x : ByteArray, x.data.toList.length = x.size := fun x => Array.length_toList
  refine Txt.ext ?_
  have happ : ∀ x y : ByteArray, (x ++ y).data.toList = x.data.toList ++ y.data.toList := fun x y => by simp
  rw [happ, happ, extract_data, extract_data, ofL_data]
  unfold writeL
  rw [hsz, hsz, List.drop_zero, Nat.sub_zero]
  have hL : S.data.toList = stretch d.data.toList (max d.size (a + data.size)) := by rw [← hS, ofL_data]
  have hLs : S.size = (stretch d.data.toList (max d.size (a + data.size))).length := by rw [← hL, hsz]
  rw [hL, hLs]
  congr 1
  rw [List.take_of_length_le]
  rw [List.length_drop]
  exact Nat.le_refl _

section
set_option maxHeartbeats 1000000
def BytesPost (d : ByteArray) (o : Sp.Op) (b n : Nat) (w : World) (e : Ending) (w' : World) : Prop :=
  e = .returned (.tuple #[.string (bytesD d o).2.1, .int .i64 (bytesD d o).2.2]) ∧ w'.heap[b]? = some (thingO (bytesD d o).1 n none) ∧ Turn (fun k => k = b) w w'

theorem bytes_any {w : World} {b : Nat} {d : ByteArray} {n : Nat} (hb : w.heap[b]? = some (thingO d n none)) (hd : d.size ≤ 2560) (o : Sp.Op) (ho : OpOk o) :
    Calls Tryz.prog 33 #[ptr b, opV o] w (BytesPost d o b n w) := by
  obtain ⟨kind, path, tt, off, len, data⟩ := o
  have Hb := Lib.hid hb
  have HO := Lib.hid ho
  have hlt : b < w.heap.size := (Array.getElem?_eq_some_iff.1 hb).1
  have c0 : w.cell? ⟨b, 0, none⟩ = some (.string d) := cell_of_heap hb rfl
  obtain ⟨hoff1, hoff2⟩ := ho.off
  obtain ⟨hlen1, hlen2⟩ := ho.len
  simp only at hoff1 hoff2 hlen1 hlen2
  clear ho hb
  unfold opV
  simp only
  by_cases hk7 : kind = 7
  · subst hk7
    unfold ptr
    go_enter Tryz.func33, Tryz.ntmps33
    go_wp2
    · go_ret2
      have hneg : off < 0 ∨ len < 0 := by omega
      have hD : bytesD d ⟨7, path, tt, off, len, data⟩ = (d, ofL [], 1) := by unfold bytesD; simp [hneg]
      unfold BytesPost
      rw [hD]
      exact ⟨rfl, heap_below ((Below.refl _ _).alloc (Nat.le_refl _) _) _ _ Hb.out, Turn.of_below ((Below.refl _ _).alloc (Nat.le_refl _) _)⟩
    · go_quiet (fail)
      go_wp2
      go_ret2
      have hneg : ¬ (off < 0 ∨ len < 0) := by omega
      have hD : bytesD d ⟨7, path, tt, off, len, data⟩ = (d, ofL (piece d.data.toList off.toNat len.toNat), 0) := by unfold bytesD; simp [hneg]
      unfold BytesPost
      rw [hD, piece_eq d (by omega) (by omega)]
      exact ⟨rfl, heap_below ((Below.refl _ _).alloc (Nat.le_refl _) _) _ _ Hb.out, Turn.of_below (below_drewN ((Below.refl _ _).alloc (Nat.le_refl _) _) _)⟩
  by_cases hk8 : kind = 8
  · subst hk8
    clear hk7
    unfold ptr
    go_enter Tryz.func33, Tryz.ntmps33
    by_cases hneg : off < 0
    · go_wp2
      go_ret2
      have hD : bytesD d ⟨8, path, tt, off, len, data⟩ = (d, ofL [], 1) := by unfold bytesD; simp [hneg]
      unfold BytesPost
      rw [hD]
      exact ⟨rfl, heap_below ((Below.refl _ _).alloc (Nat.le_refl _) _) _ _ Hb.out, Turn.of_below ((Below.refl _ _).alloc (Nat.le_refl _) _)⟩
    by_cases hbig : off > 2560 ∨ (data.size : Int) > 2560 - off
    · have hD : Hid (bytesD d ⟨8, path, tt, off, len, data⟩ = (d, ofL [], 106)) := by
        show bytesD d ⟨8, path, tt, off, len, data⟩ = (d, ofL [], 106)
        unfold bytesD
        simp only
        rw [if_neg (by decide), if_pos trivial, if_neg hneg, if_pos hbig]
      go_wp2
      all_goals go_ret2
      all_goals
        unfold BytesPost
        rw [hD.out]
        exact ⟨rfl, heap_below ((Below.refl _ _).alloc (Nat.le_refl _) _) _ _ Hb.out, Turn.of_below ((Below.refl _ _).alloc (Nat.le_refl _) _)⟩
    by_cases hz : data.size = 0
    · have q : data.toList.isEmpty = true := by rw [Lib.toList_data]; exact List.isEmpty_iff.2 (List.length_eq_zero_iff.1 (by rw [← hz]; exact Array.length_toList))
      have hD : Hid (bytesD d ⟨8, path, tt, off, len, data⟩ = (d, ofL [], 0)) := by
        show bytesD d ⟨8, path, tt, off, len, data⟩ = (d, ofL [], 0)
        unfold bytesD
        simp only
        rw [if_neg (by decide), if_pos trivial, if_neg hneg, if_neg hbig, if_pos hz]
      go_wp2
      go_ret2
      unfold BytesPost
      rw [hD.out]
      exact ⟨rfl, heap_below ((Below.refl _ _).alloc (Nat.le_refl _) _) _ _ Hb.out, Turn.of_below ((Below.refl _ _).alloc (Nat.le_refl _) _)⟩
    · have q : data.toList.isEmpty = false := by
        rw [Lib.toList_data, List.isEmpty_eq_false_iff]
        intro e
        exact hz (by have := congrArg List.length e; rw [Array.length_toList] at this; exact this)
      have hD : Hid (bytesD d ⟨8, path, tt, off, len, data⟩ = (ofL (writeL d.data.toList off.toNat data.data.toList), ofL [], 0)) := by
        show bytesD d ⟨8, path, tt, off, len, data⟩ = (ofL (writeL d.data.toList off.toNat data.data.toList), ofL [], 0)
        unfold bytesD
        simp only
        rw [if_neg (by decide), if_pos trivial, if_neg hneg, if_neg hbig, if_neg hz]
      have hoff0 : 0 ≤ off := by omega
      have hsm : off + (data.size : Int) ≤ 2560 := by omega
      clear hneg hbig
      obtain ⟨a, rfl⟩ := Int.eq_ofNat_of_zero_le hoff0
      go_wp2_with fail
      have hmax : (max (d.size : Int) ((a : Int) + (data.size : Int))) = ((max d.size (a + data.size) : Nat) : Int) := by omega
      rw [hmax]
      have hbW : (w.alloc (.cells #[.int .i64 8, .string path, .string tt, .int .i64 (a : Int), .int .i64 len, .string data] 35)).heap[b]? = some (thingO d n none) := heap_below ((Below.refl _ _).alloc (Nat.le_refl _) _) _ _ Hb.out
      refine (stretch_any hbW (max d.size (a + data.size)) (by omega)).mono ?_
      rintro e w1 ⟨rfl, h1, h2⟩
      have hob : w1.heap[w.heap.size]? = some (.cells #[.int .i64 8, .string path, .string tt, .int .i64 (a : Int), .int .i64 len, .string data] 35 (0, 0)) := h2.heap (heap_alloc_new w _) (by omega)
      obtain ⟨S, hS⟩ : ∃ S, ofL (stretch d.data.toList (max d.size (a + data.size))) = S := ⟨_, rfl⟩
      have hSz : S.size = max d.size (a + data.size) := by rw [← hS]; exact stretch_size d _
      have HS := Lib.hid hS
      rw [hS] at h1
      have H1 := Lib.hid h1
      have H2 := Lib.hid h2
      have e0 : w1.cell? ⟨w.heap.size, 3, none⟩ = some (.int .i64 (a : Int)) := cell_of_heap hob rfl
      have e1 : w1.cell? ⟨w.heap.size, 5, none⟩ = some (.string data) := cell_of_heap hob rfl
      have d0 : w1.cell? ⟨b, 0, none⟩ = some (.string S) := cell_of_heap h1 rfl
      have d1 : w1.frozen? ⟨b, 0, none⟩ = false := free_of_heap h1
      have hle1 : a ≤ S.size := by omega
      have hle2 : a + data.size ≤ S.size := by omega
      have hle3 : S.size ≤ 2560 := by omega
      clear h1 h2 hob hS hbW c0 hSz hmax
      go_wp2
      go_region
      go_wp2
      go_ret2
      unfold BytesPost
      rw [hD.out, Int.toNat_natCast, ← write_eq d data a HS.out]
      have hT : Turn (fun k => k = b) w1 ((w1.setCell ⟨b, 0, none⟩ (.string (S.extract 0 a ++ data ++ S.extract (a + data.size) S.size))).drew) := ⟨rfl, rfl, rfl, by show w1.heap.size ≤ (w1.setCell _ _).heap.size; rw [size_setCell]; exact Nat.le_refl _, fun k _ hn => heap_setCell_ne _ hn⟩
      have hT2 : Turn (fun k => k = b) w (w.alloc (.cells #[.int .i64 8, .string path, .string tt, .int .i64 (a : Int), .int .i64 len, .string data] 35)) := Turn.of_below ((Below.refl _ _).alloc (Nat.le_refl _) _)
      exact ⟨rfl, heap_setCell_at H1.out _, (hT2.trans H2.out (fun _ _ h => h) (fun _ _ h => h)).trans hT (fun _ _ h => h) (fun _ _ h => h)⟩
  · have hk7' : (kind == 7) = false := beq_eq_false_iff_ne.2 hk7
    have hk8' : (kind == 8) = false := beq_eq_false_iff_ne.2 hk8
    clear hk7 hk8
    unfold ptr
    go_enter Tryz.func33, Tryz.ntmps33
    go_wp2
    · go_ret2
      have hD : bytesD d ⟨kind, path, tt, off, len, data⟩ = (d, ofL [], 1) := by
        unfold bytesD
        simp only
        rw [if_neg (beq_eq_false_iff_ne.1 hk7'), if_neg (beq_eq_false_iff_ne.1 hk8'), if_pos (by omega)]
      unfold BytesPost
      rw [hD]
      exact ⟨rfl, heap_below ((Below.refl _ _).alloc (Nat.le_refl _) _) _ _ Hb.out, Turn.of_below ((Below.refl _ _).alloc (Nat.le_refl _) _)⟩
    · go_ret2
      have hD : bytesD d ⟨kind, path, tt, off, len, data⟩ = (d, ofL [], 106) := by
        unfold bytesD
        simp only
        rw [if_neg (beq_eq_false_iff_ne.1 hk7'), if_neg (beq_eq_false_iff_ne.1 hk8'), if_neg (by omega), if_pos (by omega)]
      unfold BytesPost
      rw [hD]
      exact ⟨rfl, heap_below ((Below.refl _ _).alloc (Nat.le_refl _) _) _ _ Hb.out, Turn.of_below ((Below.refl _ _).alloc (Nat.le_refl _) _)⟩
    · go_quiet (fail)
      go_wp2_with fail
      · generalize hW : (w.alloc (.cells #[.int .i64 kind, .string path, .string tt, .int .i64 off, .int .i64 len, .string data] 35)).drewN nq = W
        have hbW : W.heap[b]? = some (thingO d n none) := by rw [← hW]; exact heap_below ((Below.refl _ _).alloc (Nat.le_refl _) _) _ _ Hb.out
        have d0 : W.cell? ⟨b, 0, none⟩ = some (.string d) := cell_of_heap hbW rfl
        have d1 : W.frozen? ⟨b, 0, none⟩ = false := free_of_heap hbW
        have d2 : W.cell? ⟨w.heap.size, 4, none⟩ = some (.int .i64 len) := by rw [← hW]; exact cell_of_heap (heap_alloc_new w _) rfl
        have HbW := Lib.hid hbW
        have HWB : Hid (Below w.heap.size w W) := by
          show Below w.heap.size w W
          rw [← hW]; exact below_drewN ((Below.refl _ _).alloc (Nat.le_refl _) _) _
        clear hW hbW
        go_region
        go_wp2_with fail
        obtain ⟨m, rfl⟩ := Int.eq_ofNat_of_zero_le (show 0 ≤ len by omega)
        have hb1 : ((W.setCell ⟨b, 0, none⟩ (.string (d.extract 0 (m : Int).toNat))).drew).heap[b]? = some (thingO (d.extract 0 (m : Int).toNat) n none) := heap_setCell_at HbW.out _
        refine (stretch_any hb1 m (by omega)).mono ?_
        rintro e w1 ⟨rfl, h1, h2⟩
        have hmd : m ≤ d.size := by omega
        rw [Int.toNat_natCast, stretch_cut d hmd] at h1
        have H1 := Lib.hid h1
        have H2 := Lib.hid h2
        have HM : Hid ((m : Int) ≤ 2560) := by show (m : Int) ≤ 2560; omega
        clear h1 h2 hb1 hmd
        go_wp2
        go_ret2
        have hD : bytesD d ⟨kind, path, tt, off, (m : Int), data⟩ = (ofL (stretch d.data.toList m), ofL [], 0) := by
          unfold bytesD
          simp only
          rw [if_neg (beq_eq_false_iff_ne.1 hk7'), if_neg (beq_eq_false_iff_ne.1 hk8'), if_neg (by omega), if_neg (by have := HM.out; omega), Int.toNat_natCast]
        unfold BytesPost
        rw [hD]
        have hT : Turn (fun k => k = b) W ((W.setCell ⟨b, 0, none⟩ (.string (d.extract 0 (m : Int).toNat))).drew) := ⟨rfl, rfl, rfl, by show W.heap.size ≤ (W.setCell _ _).heap.size; rw [size_setCell]; exact Nat.le_refl _, fun k _ hn => heap_setCell_ne _ hn⟩
        have hT2 : Turn (fun k => k = b) w W := Turn.of_below HWB.out
        exact ⟨rfl, H1.out, (hT2.trans hT (fun _ _ h => h) (fun _ _ h => h)).trans H2.out (fun _ _ h => h) (fun _ _ h => h)⟩
      · obtain ⟨m, rfl⟩ := Int.eq_ofNat_of_zero_le (show 0 ≤ len by omega)
        have hbW : ((w.alloc (.cells #[.int .i64 kind, .string path, .string tt, .int .i64 off, .int .i64 (m : Int), .string data] 35)).drewN nq).heap[b]? = some (thingO d n none) := heap_below ((Below.refl _ _).alloc (Nat.le_refl _) _) _ _ Hb.out
        refine (stretch_any hbW m (by omega)).mono ?_
        rintro e w1 ⟨rfl, h1, h2⟩
        have H1 := Lib.hid h1
        have H2 := Lib.hid h2
        have HM : Hid ((m : Int) ≤ 2560) := by show (m : Int) ≤ 2560; omega
        clear h1 h2 hbW
        go_wp2
        go_ret2
        have hD : bytesD d ⟨kind, path, tt, off, (m : Int), data⟩ = (ofL (stretch d.data.toList m), ofL [], 0) := by
          unfold bytesD
          simp only
          rw [if_neg (beq_eq_false_iff_ne.1 hk7'), if_neg (beq_eq_false_iff_ne.1 hk8'), if_neg (by omega), if_neg (by have := HM.out; omega), Int.toNat_natCast]
        unfold BytesPost
        rw [hD]
        exact ⟨rfl, H1.out, (Turn.of_below (K := fun k => k = b) (below_drewN ((Below.refl _ _).alloc (Nat.le_refl _) _) _)).trans H2.out (fun _ _ h => h) (fun _ _ h => h)⟩
end
end Go.Proofs.YtcgpmnlondnbhaaGreatDoor

namespace Go.Proofs.YtcgpmnlondnbhaaGreatDoor
open Go Go.RowKit Txt Sp

section
variable {w w' : World} {B : Nat} {t : Sp.Tree} {φ μ : Nat → Nat}
theorem file_ok (hok : t.Ok) {p : ByteArray} {i : Nat} (h : t.file p = (i, 0)) : t.idOf (full p) = some i ∧ t.isDir i = false ∧ (i, false, t.dataOf i) ∈ t.things := by
  unfold Sp.Tree.file at h
  split at h
  · rename_i h1
    split at h
    · have := congrArg (·.2) h
      exact absurd this (show (102 : Int) ≠ 0 by decide)
    · rename_i h2
      have hi : (t.at p).1 = i := congrArg (·.1) h
      have h3 := (at_ok t h1).2.2
      rw [hi] at h2 h3
      have hd : t.isDir i = false := Bool.eq_false_iff.2 h2
      have h4 := there_idOf hok h3
      rw [hd] at h4
      exact ⟨h3, hd, h4⟩
  · rename_i h1
    exact absurd (congrArg (·.2) h) h1

theorem bytes_eq {o : Sp.Op} {i : Nat} (hf : t.file o.path = (i, 0)) (hd : (t.dataOf i).size ≤ 2560) : (t.bytes o).2 = (bytesD (t.dataOf i) o).2 ∧
    (((t.bytes o).1 = t ∧ (bytesD (t.dataOf i) o).1 = t.dataOf i) ∨ (t.bytes o).1 = t.set i (bytesD (t.dataOf i) o).1) ∧ (bytesD (t.dataOf i) o).1.size ≤ 2560 := by
  unfold Sp.Tree.bytes bytesD
  rw [hf, if_pos rfl]
  simp only
  split
  · split
    · exact ⟨rfl, Or.inl ⟨rfl, rfl⟩, hd⟩
    · exact ⟨rfl, Or.inl ⟨rfl, rfl⟩, hd⟩
  · split
    · split
      · exact ⟨rfl, Or.inl ⟨rfl, rfl⟩, hd⟩
      · split
        · exact ⟨rfl, Or.inl ⟨rfl, rfl⟩, hd⟩
        · split
          · exact ⟨rfl, Or.inl ⟨rfl, rfl⟩, hd⟩
          · refine ⟨rfl, Or.inr rfl, ?_⟩
            show (ofL (writeL (t.dataOf i).data.toList o.off.toNat o.data.data.toList)).size ≤ 2560
            rw [Lib.size_eq, ofL_data, writeL_length, ← Lib.size_eq, ← Lib.size_eq]
            omega
    · split
      · exact ⟨rfl, Or.inl ⟨rfl, rfl⟩, hd⟩
      · split
        · exact ⟨rfl, Or.inl ⟨rfl, rfl⟩, hd⟩
        · refine ⟨rfl, Or.inr rfl, ?_⟩
          show (ofL (stretch (t.dataOf i).data.toList o.len.toNat)).size ≤ 2560
          rw [stretch_size]
          omega

theorem dom_set (hok : t.Ok) {i : Nat} {d : ByteArray} (hi : (i, false, t.dataOf i) ∈ t.things) (hs : d.size ≤ 2560) {k : Nat} (h : Rep.dom B (t.set i d) φ μ k) : Rep.dom B t φ μ k := by
  rcases h with rfl | ⟨j, ⟨b, e, hj⟩, h⟩
  · exact Or.inl rfl
  · have hok' := hok.set hi hs
    have hd := isDir_of hok' hj
    obtain ⟨x, hx, he⟩ := List.mem_map.1 hj
    obtain ⟨a, c, f⟩ := x
    have hac : a = j ∧ c = b := by
      simp only at he
      split at he <;> cases he <;> exact ⟨rfl, rfl⟩
    obtain ⟨rfl, rfl⟩ := hac
    refine Or.inr ⟨a, ⟨_, _, hx⟩, ?_⟩
    rw [isDir_of hok hx, ← hd]
    exact h

theorem bytes_rep (hR : Rep w B t φ μ) (hok : t.Ok) {o : Sp.Op} {i : Nat} (hf : t.file o.path = (i, 0)) (h : w'.heap[φ i]? = some (thingO (bytesD (t.dataOf i) o).1 (t.links i) none)) (T : Turn (fun k => k = φ i) w w') :
    Rep w' B (t.bytes o).1 φ μ ∧ Turn (Rep.dom B t φ μ) w w' ∧ ∀ k, Rep.dom B (t.bytes o).1 φ μ k → Rep.dom B t φ μ k := by
  obtain ⟨h1, h2, h3⟩ := file_ok hok hf
  obtain ⟨_, e2, e3⟩ := bytes_eq hf (hok.small _ _ h3)
  refine ⟨?_, T.mono (fun k _ h => h ▸ dom_thing ⟨_, _, h3⟩), ?_⟩
  · rcases e2 with ⟨e, e'⟩ | e
    · rw [e]
      rw [e'] at h
      refine hR.same (fun k ob hk => ?_)
      by_cases hkk : k = φ i
      · subst hkk
        rw [hR.file i _ h3] at hk
        rw [← hk]
        exact h
      · exact T.heap hk hkk
    · rw [e]
      exact hR.set hok h3 e3 (fun b ob hb hne => T.heap hb hne) h
  · rcases e2 with ⟨e, _⟩ | e
    · rw [e]; exact fun _ h => h
    · rw [e]; exact fun k h => dom_set hok h3 e3 h
end
end Go.Proofs.YtcgpmnlondnbhaaGreatDoor
