/-
  The tree: onto; what a rename does, case by case.
-/
import Derived.Test.YtcgpmnlondnbhaaDoorTreeName
namespace Go.Proofs.YtcgpmnlondnbhaaDoor
open Go Go.RowKit Txt Sp

def Sp.Tree.ontoC (t : Sp.Tree) (i : Nat) (q : List ByteArray) : Int :=
  match t.find q with
  | none => 0
  | some j => if t.isDir j = true ∧ t.isDir i = false then 102 else if t.isDir j = false ∧ t.isDir i = true then 103 else if t.isDir j = true ∧ t.kidsL q ≠ [] then 104 else 0

section
variable {t : Sp.Tree} {p tt : ByteArray} {i j : Nat} {c : Int}
theorem rename_err (h : t.dirC p = c) (hc : c ≠ 0) : t.rename p tt = (t, c) := by
  unfold Sp.Tree.rename; rw [h, if_neg hc]
theorem rename_none (h : t.dirC p = 0) (hf : t.find (full p) = none) : t.rename p tt = (t, 100) := by
  unfold Sp.Tree.rename; rw [h, if_pos rfl, hf]
theorem rename_err2 (h : t.dirC p = 0) (hf : t.find (full p) = some i) (h2 : (lastN tt).2.2 = c) (hc : c ≠ 0) : t.rename p tt = (t, c) := by
  unfold Sp.Tree.rename; rw [h, if_pos rfl, hf, h2, ]; simp only; rw [if_neg hc]
theorem rename_loop (h : t.dirC p = 0) (hf : t.find (full p) = some i) (h2 : (lastN tt).2.2 = 0) (hl : t.isDir i = true ∧ full p <+: full tt ∧ p ≠ tt) : t.rename p tt = (t, 107) := by
  unfold Sp.Tree.rename; rw [h, if_pos rfl, hf, h2]; simp only; rw [if_pos trivial, if_pos hl]
theorem rename_err3 (h : t.dirC p = 0) (hf : t.find (full p) = some i) (h2 : (lastN tt).2.2 = 0) (hl : ¬ (t.isDir i = true ∧ full p <+: full tt ∧ p ≠ tt)) (h3 : t.dirC tt = c) (hc : c ≠ 0) : t.rename p tt = (t, c) := by
  unfold Sp.Tree.rename; rw [h, if_pos rfl, hf, h2, h3]; simp only; rw [if_pos trivial, if_neg hl, if_neg hc]
theorem rename_new (h : t.dirC p = 0) (hf : t.find (full p) = some i) (h2 : (lastN tt).2.2 = 0) (hl : ¬ (t.isDir i = true ∧ full p <+: full tt ∧ p ≠ tt)) (h3 : t.dirC tt = 0) (hg : t.find (full tt) = none) :
    t.rename p tt = (t.move (t.isDir i) (full p) (full tt), 0) := by
  unfold Sp.Tree.rename; rw [h, if_pos rfl, hf, h2, h3]; simp only; rw [if_pos trivial, if_neg hl, if_pos trivial, hg]
theorem rename_same (h : t.dirC p = 0) (hf : t.find (full p) = some i) (h2 : (lastN tt).2.2 = 0) (hl : ¬ (t.isDir i = true ∧ full p <+: full tt ∧ p ≠ tt)) (h3 : t.dirC tt = 0) (hg : t.find (full tt) = some i) : t.rename p tt = (t, 0) := by
  unfold Sp.Tree.rename; rw [h, if_pos rfl, hf, h2, h3]; simp only; rw [if_pos trivial, if_neg hl, if_pos trivial, hg]; simp
theorem rename_onto (h : t.dirC p = 0) (hf : t.find (full p) = some i) (h2 : (lastN tt).2.2 = 0) (hl : ¬ (t.isDir i = true ∧ full p <+: full tt ∧ p ≠ tt)) (h3 : t.dirC tt = 0) (hg : t.find (full tt) = some j) (hij : i ≠ j) :
    t.rename p tt = if t.ontoC i (full tt) = 0 then ((t.forget (full tt)).move (t.isDir i) (full p) (full tt), 0) else (t, t.ontoC i (full tt)) := by
  unfold Sp.Tree.rename Sp.Tree.ontoC; rw [h, if_pos rfl, hf, h2, h3]; simp only; rw [if_pos trivial, if_neg hl, if_pos trivial, hg]; simp only; rw [if_neg hij]
  split
  · rw [if_neg (by decide)]
  · split
    · rw [if_neg (by decide)]
    · split
      · rw [if_neg (by decide)]
      · rw [if_pos rfl]
end

section
set_option maxHeartbeats 1000000
theorem onto_any {w : World} {B : Nat} {t : Sp.Tree} {φ μ : Nat → Nat} (hR : Rep w B t φ μ) (hok : t.Ok) {i : Nat} {p : List ByteArray} (hp : t.idOf p = some i) (q : List ByteArray) (hk : ∀ q, (t.kidsL q).length ≤ 1000000) :
    Calls Tryd.prog 46 #[ptr (φ i), ptrO ((t.find q).map φ)] w fun e w' => e = .returned (.int .i64 (t.ontoC i q)) ∧ Below w.heap.size w w' := by
  have m1 := fun (r : Option Nat) (w : World) => run_eql_map_nil (P := Tryd.prog) w 64 _ _ r ht_map
  have m2 := fun (r : Option Nat) (w : World) => run_neq_map_nil (P := Tryd.prog) w 64 _ _ r ht_map
  have l0 := nil_len
  have HR := Lib.hid hR
  have HOK := Lib.hid hok
  have HP := Lib.hid hp
  have HK := Lib.hid hk
  clear hR hok hp hk
  cases hq : t.find q with
  | none =>
    have HC : Hid (t.ontoC i q = 0) := by show t.ontoC i q = 0; unfold Sp.Tree.ontoC; rw [hq]
    clear hq
    simp only [Option.map_none, ptrO, ptr]
    go_enter Tryd.func46, Tryd.ntmps46
    go_wp2
    go_ret
    rw [HC.out]
    exact ⟨rfl, Below.refl _ _⟩
  | some j =>
    have HQ := Lib.hid (find_idOf HOK.out hq)
    have HC : Hid (t.ontoC i q = if t.isDir j = true ∧ t.isDir i = false then 102 else if t.isDir j = false ∧ t.isDir i = true then 103 else if t.isDir j = true ∧ t.kidsL q ≠ [] then 104 else 0) := by
      show t.ontoC i q = _; unfold Sp.Tree.ontoC; rw [hq]
    clear hq
    simp only [Option.map_some, ptrO, ptr]
    cases hi : t.isDir i with
    | true =>
      have c1 := HR.out.dirCell HP.out hi
      cases hj : t.isDir j with
      | true =>
        have c2 := HR.out.dirCell HQ.out hj
        obtain ⟨_, lj, hlj, _⟩ := HR.out.dir j _ HQ.out hj
        have HLen := Lib.hid (HR.out.len HOK.out HQ.out hj hlj)
        have hlen := run_len_ptr (P := Tryd.prog) (ty := 3) len0 hlj
        obtain ⟨n, hn⟩ : ∃ n, lj.length = n := ⟨_, rfl⟩
        have HN := Lib.hid hn
        have hnb : n ≤ 1000000 := by rw [← hn, HLen.out]; exact HK.out _
        rw [hn] at hlen
        rw [hi, hj] at HC
        clear hi hj hn hlj
        by_cases hn0 : n = 0
        · have HKE : Hid (t.kidsL q = []) := List.length_eq_zero_iff.1 (by rw [← HLen.out, HN.out]; exact hn0)
          subst hn0
          go_enter Tryd.func46, Tryd.ntmps46
          go_wp2
          go_ret
          rw [HC.out, HKE.out]
          exact ⟨by simp, Below.refl _ _⟩
        · have HKE : Hid (t.kidsL q ≠ []) := fun e => by
            have h1 := HLen.out
            rw [e, HN.out] at h1
            exact hn0 h1
          have hpos : 0 < n := by omega
          clear hn0
          go_enter Tryd.func46, Tryd.ntmps46
          go_wp2
          go_ret
          rw [HC.out]
          exact ⟨by simp [HKE.out], Below.refl _ _⟩
      | false =>
        have c2 := HR.out.fileCell HOK.out HQ.out hj
        rw [hi, hj] at HC
        clear hi hj
        go_enter Tryd.func46, Tryd.ntmps46
        go_wp2
        go_ret
        rw [HC.out]
        exact ⟨by simp, Below.refl _ _⟩
    | false =>
      have c1 := HR.out.fileCell HOK.out HP.out hi
      cases hj : t.isDir j with
      | true =>
        have c2 := HR.out.dirCell HQ.out hj
        rw [hi, hj] at HC
        clear hi hj
        go_enter Tryd.func46, Tryd.ntmps46
        go_wp2
        go_ret
        rw [HC.out]
        exact ⟨by simp, Below.refl _ _⟩
      | false =>
        have c2 := HR.out.fileCell HOK.out HQ.out hj
        rw [hi, hj] at HC
        clear hi hj
        go_enter Tryd.func46, Tryd.ntmps46
        go_wp2
        go_ret
        rw [HC.out]
        exact ⟨by simp, Below.refl _ _⟩
end
end Go.Proofs.YtcgpmnlondnbhaaDoor
