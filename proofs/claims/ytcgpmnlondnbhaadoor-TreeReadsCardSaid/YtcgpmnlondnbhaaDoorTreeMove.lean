/-
  The tree: what taking a thing away here and putting it there does to memory. No walk in this text.
-/
import Derived.Test.YtcgpmnlondnbhaaDoorTreeOnto
import Derived.Test.YtcgpmnlondnbhaaDoorCommon
namespace Go.Proofs.YtcgpmnlondnbhaaDoor
open Go Go.RowKit Txt Sp

theorem last_split {p : ByteArray} {l : List ByteArray} {x : ByteArray} (h : lastN p = (l, x, 0)) : splitN p = (full p, 0) := by
  rcases lastN_cases p with ⟨c, h1, h2⟩ | ⟨l', x', h1, h2⟩
  · rw [h] at h1
    have : (0 : Int) = c := congrArg (fun x : List ByteArray × ByteArray × Int => x.2.2) h1
    exact absurd this.symm (beq_eq_false_iff_ne.1 h2)
  · unfold full; rw [h2]
theorem last_split0 {p : ByteArray} (h : (lastN p).2.2 = 0) : splitN p = (full p, 0) :=
  last_split (l := (lastN p).1) (x := (lastN p).2.1) (by rw [← h])
theorem under_full {p q : ByteArray} (hp : (lastN p).2.2 = 0) (hq : (lastN q).2.2 = 0) : underN p q = (decide (full p <+: full q), 0) := by
  rw [underN_ok (last_split0 hp) (last_split0 hq)]
  congr 1
  exact decide_eq_decide.2 (lcp_full _ _)
theorem dirC_last {t : Sp.Tree} {p : ByteArray} (h : t.dirC p = 0) : (lastN p).2.2 = 0 := by
  unfold Sp.Tree.dirC at h
  split at h
  · assumption
  · rename_i h1; exact absurd h h1

section
variable {w w3 w4 w5 : World} {B : Nat} {t : Sp.Tree} {φ μ : Nat → Nat}
theorem moved_rep (hR : Rep w3 B t φ μ) (hok : t.Ok) {lp l : List ByteArray} {x y : ByteArray} {a i k : Nat} (ha : t.idOf lp = some a) (had : t.isDir a = true) (hf : t.find (lp ++ [x]) = some i) (hl : t.idOf l = some k) (hd : t.isDir k = true) (hy : nameB y = true)
    (hq : t.find (l ++ [y]) = none) (hloop : t.isDir i = true → ¬ lp ++ [x] <+: l ++ [y])
    {la lk : List (ByteArray × Nat)} (hla : MapAt w3 (μ a) la) (hlk : MapAt w4 (μ k) lk) {d : ByteArray} {n : Nat} {m : Option Nat} (hwas : w3.heap[φ i]? = some (thingO d n m)) (hn : 1 ≤ n) {o4 o5 : Obj}
    (h4 : IsMap o4 (delM la x)) (m4 : w4.heap[μ a]? = some o4) (T4 : Turn (fun b => b = μ a ∨ b = φ i) w3 w4)
    (h5 : IsMap o5 (setM lk y (φ i))) (m5 : w5.heap[μ k]? = some o5) (b5 : w5.heap[φ i]? = some (thingO d (n - 1 + 1) m)) (T5 : Turn (fun b => b = μ k ∨ b = φ i) w4 w5) :
    Rep w5 B (t.move (t.isDir i) (lp ++ [x]) (l ++ [y])) φ μ ∧ Turn (Rep.dom B t φ μ) w3 w5 := by
  have hah := has_idOf hok ha
  have hkh := has_idOf hok hl
  have hih := has_idOf hok (find_idOf hok hf)
  refine ⟨hR.move hok ha had hf hl hd hy hq hloop (fun b o ho h1 h2 => ?_) (fun j lj hj hdj hjo hlj => ?_), T4.trans T5 (fun b _ h => ?_) (fun b _ h => ?_)⟩
  · by_cases hb : b = φ i
    · subst hb
      rw [hwas] at ho
      cases ho
      rw [b5, Nat.sub_add_cancel hn]
    · exact T5.heap (T4.heap ho (fun h => h.elim h1 hb)) (fun h => h.elim h2 hb)
  · have hia : φ i ≠ μ a := hR.thing_ne_map hok hih hah had
    have hik : φ i ≠ μ k := hR.thing_ne_map hok hih hkh hd
    by_cases hja : j = a
    · subst hja
      have e := hlj.uniq hla
      subst e
      by_cases hjk : j = k
      · subst hjk
        have e := hlk.uniq ⟨o4, m4, h4⟩
        subst e
        unfold moveM
        rw [if_pos rfl, if_pos rfl]
        exact ⟨o5, m5, h5⟩
      · unfold moveM
        rw [if_pos rfl, if_neg hjk]
        exact ⟨o4, T5.heap m4 (fun h => h.elim (fun e => hjk (hR.injm _ _ hah hkh had hd e)) (fun e => hia e.symm)), h4⟩
    · have hjk : j = k := hjo.resolve_left hja
      subst hjk
      have h := hlj.same (w' := w4) (fun o ho => T4.heap ho (fun h => h.elim (fun e => hja (hR.injm _ _ hkh hah hd had e)) (fun e => hik e.symm)))
      have e := h.uniq hlk
      subst e
      unfold moveM
      rw [if_neg hja, if_pos rfl]
      exact ⟨o5, m5, h5⟩
  · rcases h with rfl | rfl
    · exact dom_map hah had
    · exact dom_thing hih
  · rcases h with rfl | rfl
    · exact dom_map hkh hd
    · exact dom_thing hih
/-- What put asks for, once the thing was taken away elsewhere. -/
theorem put_ready (hR : Rep w3 B t φ μ) (hok : t.Ok) {lp l : List ByteArray} {x y : ByteArray} {a i k : Nat} (ha : t.idOf lp = some a) (had : t.isDir a = true) (hf : t.find (lp ++ [x]) = some i) (hl : t.idOf l = some k) (hd : t.isDir k = true)
    (hloop : t.isDir i = true → ¬ lp ++ [x] <+: l ++ [y]) {o4 : Obj} {la : List (ByteArray × Nat)} (h4 : IsMap o4 (delM la x)) (m4 : w4.heap[μ a]? = some o4) (T4 : Turn (fun b => b = μ a ∨ b = φ i) w3 w4) :
    (∃ lk, MapAt w4 (μ k) lk) ∧ ∃ dd dn, w4.heap[φ k]? = some (thingO dd dn (some (μ k))) := by
  have hah := has_idOf hok ha
  have hkh := has_idOf hok hl
  have hi := find_idOf hok hf
  have hih := has_idOf hok hi
  have hki : k ≠ i := by
    rintro rfl
    have := dir_path hok hi hl hd
    exact hloop hd (by rw [this]; exact List.prefix_append _ _)
  obtain ⟨h1, lk, h2, _⟩ := hR.dir k l hl hd
  refine ⟨?_, _, _, T4.heap h1 (fun h => h.elim (fun e => hR.thing_ne_map hok hkh hah had e) (fun e => hki (hR.inj _ _ hkh hih e)))⟩
  by_cases hka : k = a
  · subst hka
    exact ⟨_, o4, m4, h4⟩
  · exact ⟨lk, h2.same (fun o ho => T4.heap ho (fun h => h.elim (fun e => hka (hR.injm _ _ hkh hah hd had e)) (fun e => hR.thing_ne_map hok hih hkh hd e.symm)))⟩
theorem Rep.lt_thing (hR : Rep w B t φ μ) (hok : t.Ok) {i : Nat} (h : t.has i) : φ i < w.heap.size := let ⟨_, _, h⟩ := hR.thing hok h; (Array.getElem?_eq_some_iff.1 h).1
theorem Rep.lt_map (hR : Rep w B t φ μ) (hok : t.Ok) {i : Nat} (h : t.has i) (hd : t.isDir i = true) : μ i < w.heap.size := let ⟨_, _, h⟩ := hR.map hok h hd; (Array.getElem?_eq_some_iff.1 h).1
end

/-- What stands in another tree once a name is forgotten. -/
theorem forget_at {t : Sp.Tree} (hok : t.Ok) {q : List ByteArray} {j : Nat} (hq : t.find q = some j) (hbelow : ∀ s k, (q ++ [s], k) ∉ t.names) {l : List ByteArray} {x : ByteArray} {a i : Nat} (hl : t.idOf l = some a) (hf : t.find (l ++ [x]) = some i) (hne : l ++ [x] ≠ q) :
    (t.forget q).idOf l = some a ∧ (t.forget q).find (l ++ [x]) = some i := by
  refine ⟨?_, by rw [find_forget hok hq, if_neg hne]; exact hf⟩
  have hlq : l ≠ q := fun e => hbelow x i (by rw [← e]; exact (find_mem hok).1 hf)
  unfold Sp.Tree.idOf at hl ⊢
  split
  · rename_i e; rw [if_pos e] at hl; exact hl
  · rename_i e; rw [if_neg e] at hl; rw [find_forget hok hq, if_neg hlq]; exact hl
theorem forget_up {t : Sp.Tree} (hok : t.Ok) {l : List ByteArray} {y : ByteArray} {j k : Nat} (hq : t.find (l ++ [y]) = some j) (hl : t.idOf l = some k) : (t.forget (l ++ [y])).idOf l = some k := by
  have hlq : l ≠ l ++ [y] := fun e => by have := congrArg List.length e; simp at this
  unfold Sp.Tree.idOf at hl ⊢
  split
  · rename_i e; rw [if_pos e] at hl; exact hl
  · rename_i e; rw [if_neg e] at hl; rw [find_forget hok hq, if_neg hlq]; exact hl
theorem onto_below {t : Sp.Tree} (hok : t.Ok) {q : List ByteArray} {i j : Nat} (hq : t.find q = some j) (h0 : t.ontoC i q = 0) : ∀ s k, (q ++ [s], k) ∉ t.names := by
  refine nothing_below hok hq (fun hd => ?_)
  unfold Sp.Tree.ontoC at h0
  rw [hq] at h0
  simp only at h0
  split at h0
  · cases h0
  · split at h0
    · cases h0
    · split at h0
      · cases h0
      · rename_i h1
        have := not_and.1 h1 hd
        simpa using this
end Go.Proofs.YtcgpmnlondnbhaaDoor
