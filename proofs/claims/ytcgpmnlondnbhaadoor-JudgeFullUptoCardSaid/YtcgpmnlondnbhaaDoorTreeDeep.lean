/-
  copied of a directory: what holds behind some rounds. No walk in this text.
-/
import Derived.Test.YtcgpmnlondnbhaaDoorTreeFork
import Derived.Test.YtcgpmnlondnbhaaDoorTreePaths
namespace Go.Proofs.YtcgpmnlondnbhaaDoor
open Go Go.RowKit Txt Sp

section
variable {B Dm : Nat} {t : Sp.Tree} {φ μ : Nat → Nat}

/-- Behind some rounds: n is how many blocks there were ahead of it all; the new thing's block is n, its map's n + 1, the iterator's n + 2. -/
structure CopyRel (w : World) (t : Sp.Tree) (φ μ : Nat → Nat) (Dm : Nat) (p : List ByteArray) (i : Nat) (l : List (ByteArray × Nat)) (S : List Nat) (ψ ν : Nat → Nat) (wr : World) (dn : ByteArray → Bool) (cnt : Nat) (S2 : List Nat) (ψ2 ν2 : Nat → Nat) (lk : List (ByteArray × Nat)) : Prop where
  rg : Ranging wr (μ i) (w.heap.size + 2) l (fun s => (getM l s).isSome = true ∧ dn s = false) cnt
  map : PMapAt wr Dm (pairs φ ψ2 S2)
  thing : wr.heap[w.heap.size]? = some (thingO (ofL []) (t.links i) (some (w.heap.size + 1)))
  own : MapAt wr (w.heap.size + 1) lk
  kids : ∀ s, getM lk s = if dn s = true then (t.find (p ++ [s])).map ψ2 else none
  old : ∀ j ∈ S, ψ2 j = ψ j ∧ ν2 j = ν j
  self : i ∈ S2 ∧ ψ2 i = w.heap.size ∧ ν2 i = w.heap.size + 1
  news : News (w.heap.size + 3) wr t (S ++ [i]) S2 ψ2 ν2 (fun q => ∃ s, dn s = true ∧ p ++ [s] <+: q)
  turn : Turn (fun k => k = Dm) w wr
  past : w.heap.size + 3 ≤ wr.heap.size

theorem Rep.turn {w w' : World} (hR : Rep w B t φ μ) (hok : t.Ok) (hT : Turn (fun k => k = Dm) w w') (hDm : ∀ k, Rep.dom B t φ μ k → k ≠ Dm) : Rep w' B t φ μ := hR.dom_same hok (fun k hk _ ho => hT.heap ho (hDm k hk))

theorem CopyRel.step {w wr w1 w2 w3 : World} {p : List ByteArray} {i : Nat} {l lk : List (ByteArray × Nat)} {S S2 : List Nat} {ψ ν ψ2 ν2 : Nat → Nat} {dn : ByteArray → Bool} {cnt cnt1 : Nat} (hok : t.Ok)
    (h : CopyRel w t φ μ Dm p i l S ψ ν wr dn cnt S2 ψ2 ν2 lk) (hDw : Dm < w.heap.size) (hμ : μ i < w.heap.size) (hμD : μ i ≠ Dm) {s : ByteArray} {j : Nat} (hj : t.find (p ++ [s]) = some j) (hs : dn s = false)
    (hrg : Ranging w1 (μ i) (w.heap.size + 2) l (fun z => ((getM l z).isSome = true ∧ dn z = false) ∧ z ≠ s) cnt1) (hg1 : wr.grownBy w1 (some (w.heap.size + 2))) (hz1 : w1.heap.size = wr.heap.size)
    {S3 : List Nat} {ψ3 ν3 : Nat → Nat} (hmap : PMapAt w2 Dm (pairs φ ψ3 S3)) (hold : ∀ k ∈ S2, ψ3 k = ψ2 k ∧ ν3 k = ν2 k) (hnews : News w1.heap.size w2 t S2 S3 ψ3 ν3 (fun q => p ++ [s] <+: q)) (hT2 : Turn (fun k => k = Dm) w1 w2)
    (hmapw : ∀ o, w2.heap[Dm]? = some o → w3.heap[Dm]? = some o) (h3 : ∀ k, k ≠ w.heap.size + 1 → w3.heap[k]? = w2.heap[k]?) (hsz3 : w3.heap.size = w2.heap.size) (hos : w3.os = w2.os) (htape : w3.tape = w2.tape) (hout : w3.output = w2.output) {o' : Obj} (ho' : w3.heap[w.heap.size + 1]? = some o') (hm' : IsMap o' (setM lk s (ψ3 j))) :
    CopyRel w t φ μ Dm p i l S ψ ν w3 (fun z => dn z || decide (z = s)) cnt1 S3 ψ3 ν3 (setM lk s (ψ3 j)) := by
  have hpast := h.past
  have hz2 := hT2.size
  have step1 : ∀ k, k ≠ w.heap.size + 2 → k < wr.heap.size → w1.heap[k]? = wr.heap[k]? := fun k hk hlt => hg1.block k hlt (by simp [hk])
  have keep : ∀ k o, wr.heap[k]? = some o → k ≠ w.heap.size + 2 → k ≠ w.heap.size + 1 → k ≠ Dm → w3.heap[k]? = some o := fun k o ho k1 k2 k3 => by
    have hlt := (Array.getElem?_eq_some_iff.1 ho).1
    rw [h3 k k2, hT2.block k (by omega) k3, step1 k k1 hlt]
    exact ho
  have keep2 : ∀ k o, w2.heap[k]? = some o → k ≠ w.heap.size + 1 → w3.heap[k]? = some o := fun k o ho k1 => by rw [h3 k k1]; exact ho
  refine ⟨?_, hmap.same hmapw, keep _ _ h.thing (by omega) (by omega) (by omega), ⟨o', ho', hm'⟩, fun z => ?_, fun k hk => ?_, ?_, ?_, ?_, by omega⟩
  · have k1 := hrg.kept (w' := w2) (row := some Dm) ⟨hT2.os, hT2.tape, hT2.output, hT2.size, fun k hk hn => hT2.block k hk (fun e => hn (by rw [e]))⟩ (by simp [hμD]) (by simp; omega)
    have k2 := k1.kept (w' := w3) (row := some (w.heap.size + 1)) ⟨hos, htape, hout, by omega, fun k hk hn => h3 k (fun e => hn (by rw [e]))⟩ (by simp; omega) (by simp)
    exact k2.congr (fun z => by rw [and_assoc, Bool.or_eq_false_iff, decide_eq_false_iff_not])
  · rw [getM_set]
    by_cases hz : z = s
    · subst hz
      rw [if_pos rfl, if_pos (by simp), hj]
      rfl
    · rw [if_neg hz, h.kids z]
      have : (dn z || decide (z = s)) = dn z := by simp [hz]
      rw [this]
      by_cases hdz : dn z = true
      · rw [if_pos hdz, if_pos hdz]
        cases hf : t.find (p ++ [z]) with
        | none => rfl
        | some k =>
          have hk : k ∈ S2 := h.news.all (p ++ [z]) k ⟨z, hdz, List.prefix_refl _⟩ (find_idOf hok hf)
          show some (ψ2 k) = some (ψ3 k)
          rw [(hold k hk).1]
      · rw [if_neg hdz, if_neg hdz]
  · have hk2 : k ∈ S2 := h.news.sub k (List.mem_append_left _ hk)
    exact ⟨(hold k hk2).1.trans (h.old k hk).1, (hold k hk2).2.trans (h.old k hk).2⟩
  · exact ⟨hnews.sub i h.self.1, (hold i h.self.1).1.trans h.self.2.1, (hold i h.self.1).2.trans h.self.2.2⟩
  · have whole2 : ∀ k ∈ S2, k ∉ S ++ [i] → CopiedAt w3 t ψ3 ν3 k := fun k hk hn => by
      have hc := h.news.whole k hk hn
      obtain ⟨q, ⟨s0, hs0, hq0⟩, hq⟩ := h.news.at' k hk hn
      obtain ⟨l1, l2⟩ := h.news.low k hk hn
      refine hc.kept (hold k hk).1 (hold k hk).2 (fun hdk p' s' k' hp' hk' => ?_) (fun o ho => keep _ o ho (by omega) (by omega) (by omega)) (fun hdk o ho => by have := l2 hdk; exact keep _ o ho (by omega) (by omega) (by omega))
      have : p' = q := dir_path hok hp' hq hdk
      subst this
      exact (hold k' (h.news.all _ k' ⟨s0, hs0, hq0.trans (List.prefix_append _ _)⟩ (find_idOf hok hk'))).1
    have whole3 : ∀ k ∈ S3, k ∉ S2 → CopiedAt w3 t ψ3 ν3 k := fun k hk hn => by
      have hc := hnews.whole k hk hn
      obtain ⟨l1, l2⟩ := hnews.low k hk hn
      exact hc.kept rfl rfl (fun _ _ _ _ _ _ => rfl) (fun o ho => keep2 _ o ho (by omega)) (fun hdk o ho => by have := l2 hdk; exact keep2 _ o ho (by omega))
    have big : ∀ k ∈ S2, k ∉ S ++ [i] → ψ3 k < wr.heap.size ∧ (t.isDir k = true → ν3 k < wr.heap.size) := fun k hk hn => by
      have hc := h.news.whole k hk hn
      rw [(hold k hk).1, (hold k hk).2]
      exact ⟨hc.lt, fun hdk => hc.ltm hok (h.news.has k hk) hdk⟩
    refine ⟨hnews.has, fun k hk => hnews.sub k (h.news.sub k hk), fun k hk hn => ?_, fun k hk hn => ?_, fun k hk hn => ?_, fun a ha b hb hna hnb e => ?_, fun a ha b hb hna hnb hda hdb e => ?_, fun q k hq hk => ?_⟩
    · by_cases h2 : k ∈ S2
      · obtain ⟨q, ⟨s0, hs0, hq0⟩, hq⟩ := h.news.at' k h2 hn
        exact ⟨q, ⟨s0, by simp [hs0], hq0⟩, hq⟩
      · obtain ⟨q, hq0, hq⟩ := hnews.at' k hk h2
        exact ⟨q, ⟨s, by simp, hq0⟩, hq⟩
    · by_cases h2 : k ∈ S2
      · exact whole2 k h2 hn
      · exact whole3 k hk h2
    · by_cases h2 : k ∈ S2
      · rw [(hold k h2).1, (hold k h2).2]
        exact h.news.low k h2 hn
      · obtain ⟨l1, l2⟩ := hnews.low k hk h2
        exact ⟨by omega, fun hdk => by have := l2 hdk; omega⟩
    · by_cases ha2 : a ∈ S2
      · by_cases hb2 : b ∈ S2
        · rw [(hold a ha2).1, (hold b hb2).1] at e
          exact h.news.inj a ha2 b hb2 hna hnb e
        · have h1 := (big a ha2 hna).1
          have h2 := (hnews.low b hb hb2).1
          omega
      · by_cases hb2 : b ∈ S2
        · have h1 := (big b hb2 hnb).1
          have h2 := (hnews.low a ha ha2).1
          omega
        · exact hnews.inj a ha b hb ha2 hb2 e
    · by_cases ha2 : a ∈ S2
      · by_cases hb2 : b ∈ S2
        · rw [(hold a ha2).2, (hold b hb2).2] at e
          exact h.news.injm a ha2 b hb2 hna hnb hda hdb e
        · have h1 := (big a ha2 hna).2 hda
          have h2 := (hnews.low b hb hb2).2 hdb
          omega
      · by_cases hb2 : b ∈ S2
        · have h1 := (big b hb2 hnb).2 hdb
          have h2 := (hnews.low a ha ha2).2 hda
          omega
        · exact hnews.injm a ha b hb ha2 hb2 hda hdb e
    · obtain ⟨s0, hs0, hq0⟩ := hq
      by_cases hd0 : dn s0 = true
      · exact hnews.sub k (h.news.all q k ⟨s0, hd0, hq0⟩ hk)
      · have : s0 = s := by simpa [hd0] using hs0
        subst this
        exact hnews.all q k hq0 hk
  · refine ⟨hos.trans (hT2.os.trans (hg1.os.trans h.turn.os)), htape.trans (hT2.tape.trans (hg1.tape.trans h.turn.tape)), hout.trans (hT2.output.trans (hg1.output.trans h.turn.output)), by have := h.turn.size; omega, fun k hk hn => ?_⟩
    rw [h3 k (by omega), hT2.block k (by omega) hn, step1 k (by omega) (by omega)]
    exact h.turn.block k hk hn

theorem CopyRel.done {w wr : World} {p : List ByteArray} {i : Nat} {l lk : List (ByteArray × Nat)} {S S2 : List Nat} {ψ ν ψ2 ν2 : Nat → Nat} {dn : ByteArray → Bool} {cnt : Nat} (hok : t.Ok) (hp : t.idOf p = some i) (hd : t.isDir i = true)
    (h : CopyRel w t φ μ Dm p i l S ψ ν wr dn cnt S2 ψ2 ν2 lk) (hi : i ∉ S) (hall : ∀ s, (t.find (p ++ [s])).isSome = true → dn s = true) : CopyPost w t φ Dm S ψ ν p i (.returned (ptr w.heap.size)) wr := by
  have hnew : ∀ k ∈ S2, k ∉ S → k = i ∨ k ∉ S ++ [i] := fun k _ hn => by
    by_cases hki : k = i
    · exact Or.inl hki
    · exact Or.inr (fun hm => (List.mem_append.1 hm).elim hn (fun h1 => hki (List.mem_singleton.1 h1)))
  have hth := there_idOf hok hp
  rw [hd] at hth
  refine ⟨S2, ψ2, ν2, by rw [h.self.2.1], h.map, h.old, h.self.1, ⟨h.news.has, fun k hk => h.news.sub k (List.mem_append_left _ hk), fun k hk hn => ?_, fun k hk hn => ?_, fun k hk hn => ?_, fun a ha b hb hna hnb e => ?_, fun a ha b hb hna hnb hda hdb e => ?_, fun q k hq hk => ?_⟩, h.turn⟩
  · rcases hnew k hk hn with rfl | h2
    · exact ⟨p, List.prefix_refl _, hp⟩
    · obtain ⟨q, ⟨s, _, hq⟩, hk2⟩ := h.news.at' k hk h2
      exact ⟨q, (List.prefix_append p [s]).trans hq, hk2⟩
  · rcases hnew k hk hn with rfl | h2
    · refine ⟨?_, fun _ p' hp' => ?_⟩
      · rw [h.self.2.1, h.self.2.2, hd, if_pos rfl, hok.empty _ _ hth]
        exact h.thing
      · have : p' = p := dir_path hok hp' hp hd
        subst this
        rw [h.self.2.2]
        refine ⟨lk, h.own, fun s => ?_⟩
        rw [h.kids s]
        by_cases hds : dn s = true
        · rw [if_pos hds]
        · rw [if_neg hds]
          cases hf : t.find (p' ++ [s]) with
          | none => rfl
          | some k' => exact absurd (hall s (by rw [hf]; rfl)) hds
    · exact h.news.whole k hk h2
  · rcases hnew k hk hn with rfl | h2
    · rw [h.self.2.1, h.self.2.2]
      exact ⟨Nat.le_refl _, fun _ => Nat.le_succ _⟩
    · obtain ⟨l1, l2⟩ := h.news.low k hk h2
      exact ⟨by omega, fun hdk => by have := l2 hdk; omega⟩
  · rcases hnew a ha hna with rfl | h1
    · rcases hnew b hb hnb with rfl | h2
      · rfl
      · have := (h.news.low b hb h2).1
        rw [h.self.2.1] at e
        omega
    · rcases hnew b hb hnb with rfl | h2
      · have := (h.news.low a ha h1).1
        rw [h.self.2.1] at e
        omega
      · exact h.news.inj a ha b hb h1 h2 e
  · rcases hnew a ha hna with rfl | h1
    · rcases hnew b hb hnb with rfl | h2
      · rfl
      · have := (h.news.low b hb h2).2 hdb
        rw [h.self.2.2] at e
        omega
    · rcases hnew b hb hnb with rfl | h2
      · have := (h.news.low a ha h1).2 hda
        rw [h.self.2.2] at e
        omega
      · exact h.news.injm a ha b hb h1 h2 hda hdb e
  · obtain ⟨r, rfl⟩ := hq
    cases r with
    | nil =>
      rw [List.append_nil, hp] at hk
      cases hk
      exact h.self.1
    | cons s r =>
      have h1 : p ++ [s] <+: p ++ s :: r := ⟨r, by simp⟩
      have hne : p ++ s :: r ≠ [] := by simp
      have hk' := hk
      rw [idOf_find hne] at hk'
      obtain ⟨k2, hk2, _⟩ := below_there hok (p := p ++ [s]) (by simp) r (j := k) (by have := (find_mem hok).1 hk'; simpa using this)
      exact h.news.all _ k ⟨s, hall s (by rw [(find_mem hok).2 hk2]; rfl), h1⟩ hk
end
end Go.Proofs.YtcgpmnlondnbhaaDoor
