/-
  Operations on a file that is there: what they answer. Two names of a file are one. No walk in this text.
-/
import Derived.Test.YtcgpmnlondnbhaaDoorPlainA
import Derived.Test.YtcgpmnlondnbhaaDoorTreeB
import Derived.Test.YtcgpmnlondnbhaaDoorTreeA
namespace Go.Proofs.YtcgpmnlondnbhaaDoor.Sp
open Go Txt

section
variable {t : Tree}
/-- A path stands for a file. -/
structure FileAt (t : Tree) (p : ByteArray) (i : Nat) : Prop where
  at' : t.at p = (i, 0)
  file : t.isDir i = false
theorem FileAt.idOf {p : ByteArray} {i : Nat} (h : FileAt t p i) : t.idOf (full p) = some i := by
  have := (at_ok t (path := p) (by rw [h.at'])).2.2
  rw [h.at'] at this
  exact this
theorem FileAt.split {p : ByteArray} {i : Nat} (h : FileAt t p i) : splitN p = (full p, 0) := (at_ok t (path := p) (by rw [h.at'])).1
theorem at_of (h : t.Ok) {p : ByteArray} {i : Nat} (hs : splitN p = (full p, 0)) (hi : t.idOf (full p) = some i) : t.at p = (i, 0) := by
  unfold Tree.at
  rw [hs, if_pos rfl]
  exact walk_there h (full p) (pre := []) idOf_nil hi
theorem FileAt.ne_nil (h : t.Ok) {p : ByteArray} {i : Nat} (hp : FileAt t p i) : full p ≠ [] := fun e => by
  have h1 := hp.idOf
  rw [e] at h1
  cases h1
  obtain ⟨d, hr⟩ := h.root
  have h2 := isDir_of h hr
  rw [hp.file] at h2
  cases h2
theorem FileAt.find (h : t.Ok) {p : ByteArray} {i : Nat} (hp : FileAt t p i) : t.find (full p) = some i := by
  rw [← idOf_find (hp.ne_nil h)]
  exact hp.idOf
theorem FileAt.thing (h : t.Ok) {p : ByteArray} {i : Nat} (hp : FileAt t p i) : (i, false, t.dataOf i) ∈ t.things := by
  have := there_idOf h hp.idOf
  rw [hp.file] at this
  exact this
theorem FileAt.fileE {p : ByteArray} {i : Nat} (hp : FileAt t p i) : t.file p = (i, 0) := by
  unfold Tree.file
  rw [hp.at', if_pos rfl, hp.file, if_neg (by simp)]

/-- A path that stands for something stands in a directory. -/
theorem there_dirC (h : t.Ok) {p : ByteArray} {i : Nat} (hs : splitN p = (full p, 0)) (hf : t.find (full p) = some i) : t.dirC p = 0 := by
  have hne := h.ne _ _ ((find_mem h).1 hf)
  rcases dirTo t p with ⟨c, h1, h2, h3⟩ | ⟨l, x, c, h1, h2, h3, h4⟩ | ⟨l, x, k, h1, h2, h3, h4⟩ | ⟨l, x, k, h1, h2, h3, h4, h5, h6⟩
  · exfalso
    unfold lastN at h1
    rw [hs] at h1
    simp [hne] at h1
    rw [← h1.2.2] at h2
    simp at h2
  · exfalso
    have hfull : full p = l ++ [x] := by
      rcases lastN_cases p with ⟨c', e, hc'⟩ | ⟨l', x', e, hs'⟩
      · rw [h1] at e; cases e; simp at hc'
      · rw [h1] at e; cases e; unfold full; rw [hs']
    rw [hfull] at hf
    have hup := h.up _ _ ((find_mem h).1 hf)
    rw [List.dropLast_concat] at hup
    have : ∃ k, t.idOf l = some k := by
      rcases hup with rfl | ⟨k, hk, _⟩
      · exact ⟨0, idOf_nil⟩
      · exact ⟨k, find_idOf h ((find_mem h).2 hk)⟩
    obtain ⟨k, hk⟩ := this
    have := walk_there h l (pre := []) idOf_nil hk
    rw [h2] at this
    cases this
    simp at h3
  · exfalso
    have hfull : full p = l ++ [x] := by
      rcases lastN_cases p with ⟨c', e, hc'⟩ | ⟨l', x', e, hs'⟩
      · rw [h1] at e; cases e; simp at hc'
      · rw [h1] at e; cases e; unfold full; rw [hs']
    rw [hfull] at hf
    have hup := h.up _ _ ((find_mem h).1 hf)
    rw [List.dropLast_concat] at hup
    have hid := walk_ok _ h2 idOf_nil
    rw [List.nil_append] at hid
    rcases hup with rfl | ⟨j, hj, hd⟩
    · cases hid
      obtain ⟨d, hr⟩ := h.root
      rw [isDir_of h hr] at h3
      cases h3
    · have := find_idOf h ((find_mem h).2 hj)
      rw [this] at hid
      cases hid
      rw [hd] at h3
      cases h3
  · exact h4

theorem stat_file {p : ByteArray} {i : Nat} (hp : FileAt t p i) : t.step ⟨10, p, noText, 0, 0, noText⟩ = (t, { kind := 1, links := t.links i, size := (t.dataOf i).size }) := by
  have hb : t.tell ⟨10, p, noText, 0, 0, noText⟩ = { kind := 1, links := t.links i, size := (t.dataOf i).size } := by
    unfold Tree.tell
    simp only
    rw [hp.at', if_pos rfl, if_pos trivial, hp.file, if_neg (by simp)]
  unfold Tree.step
  simp only
  rw [hb]
  rfl
theorem read_file {p : ByteArray} {i : Nat} (hp : FileAt t p i) (n : Nat) : t.step ⟨7, p, noText, 0, n, noText⟩ = (t, { data := ofL (piece (t.dataOf i).data.toList 0 n) }) := by
  have hb : t.bytes ⟨7, p, noText, 0, n, noText⟩ = (t, ofL (piece (t.dataOf i).data.toList 0 n), 0) := by
    unfold Tree.bytes
    simp only
    rw [hp.fileE, if_pos rfl, if_pos trivial, if_neg (by omega)]
    rfl
  unfold Tree.step
  simp only
  rw [hb]
  rfl
theorem write_file (hok : t.Ok) {p data : ByteArray} {i : Nat} (hp : FileAt t p i) (hs : data.size ≤ 500) : ∃ t', t.step ⟨8, p, noText, 3, 0, data⟩ = (t', {}) ∧ (t' = t ∨ ∃ d, d.size ≤ 2560 ∧ t' = t.set i d) := by
  have hsm := hok.small _ _ (hp.thing hok)
  by_cases h0 : data.size = 0
  · refine ⟨t, ?_, Or.inl rfl⟩
    have hb : t.bytes ⟨8, p, noText, 3, 0, data⟩ = (t, ofL [], 0) := by
      unfold Tree.bytes
      simp only
      rw [hp.fileE, if_pos rfl, if_neg (by omega), if_pos trivial, if_neg (by omega), if_neg (by omega), if_pos h0]
    unfold Tree.step
    simp only
    rw [hb]
    rfl
  · refine ⟨t.set i (ofL (writeL (t.dataOf i).data.toList 3 data.data.toList)), ?_, Or.inr ⟨_, ?_, rfl⟩⟩
    · have hb : t.bytes ⟨8, p, noText, 3, 0, data⟩ = (t.set i (ofL (writeL (t.dataOf i).data.toList 3 data.data.toList)), ofL [], 0) := by
        unfold Tree.bytes
        simp only
        rw [hp.fileE, if_pos rfl, if_neg (by omega), if_pos trivial, if_neg (by omega), if_neg (by omega), if_neg h0]
        rfl
      unfold Tree.step
      simp only
      rw [hb]
      rfl
    · rw [Lib.size_eq, ofL_data, writeL_length, ← Lib.size_eq, ← Lib.size_eq]
      omega

theorem link_zero {p q : ByteArray} (hz : (t.link p q).2 = 0) : ∃ i, FileAt t p i ∧ t.dirC q = 0 ∧ t.find (full q) = none ∧ (t.link p q).1 = t.named (full q) i := by
  obtain ⟨i, c, hat⟩ : ∃ i c, t.at p = (i, c) := ⟨_, _, rfl⟩
  by_cases h0 : c = 0
  · subst h0
    cases hd : t.isDir i with
    | true => rw [link_dir hat hd] at hz; cases hz
    | false =>
      obtain ⟨g, hg⟩ : ∃ g, t.dirC q = g := ⟨_, rfl⟩
      by_cases hg0 : g = 0
      · subst hg0
        cases hf : t.find (full q) with
        | some j => rw [link_exist hat hd hg hf] at hz; cases hz
        | none =>
          by_cases hm : 200 ≤ t.links i
          · rw [link_many hat hd hg hf hm] at hz; cases hz
          · exact ⟨i, ⟨hat, hd⟩, hg, by first | exact hf | rfl, by rw [link_ok hat hd hg hf (by omega)]⟩
      · rw [link_err2 hat hd hg hg0] at hz; exact absurd hz hg0
  · rw [link_err (by rw [hat]; exact h0), hat] at hz; exact absurd hz h0

theorem set_at (h : t.Ok) {p : ByteArray} {i : Nat} {d : ByteArray} (hp : FileAt t p i) (hs : d.size ≤ 2560) : FileAt (t.set i d) p i := by
  have hok := h.set (hp.thing h) hs
  refine ⟨at_of hok hp.split ?_, ?_⟩
  · exact hp.idOf
  · have : (i, false, d) ∈ (t.set i d).things := List.mem_map.2 ⟨_, hp.thing h, by simp⟩
    exact isDir_of hok this
end

/-- What TreeLinks asks. -/
theorem links_law {t : Tree} (h : t.Ok) {p q data : ByteArray} (hs : data.size ≤ 500) (hl : (t.step ⟨3, p, q, 0, 0, noText⟩).2.code = 0) :
    ∃ (t1 t2 t3 : Tree) (n : Nat) (s : ByteArray) (z z2 : Int), (t.step ⟨3, p, q, 0, 0, noText⟩) = (t1, {}) ∧ 1 ≤ n ∧ n ≤ t.names.length ∧ t1.step ⟨10, p, noText, 0, 0, noText⟩ = (t1, { kind := 1, links := (n : Int) + 1, size := z }) ∧
      t1.step ⟨8, q, noText, 3, 0, data⟩ = (t2, {}) ∧ t2.step ⟨7, p, noText, 0, 5000, noText⟩ = (t2, { data := s }) ∧ t2.step ⟨7, q, noText, 0, 5000, noText⟩ = (t2, { data := s }) ∧
      t2.step ⟨4, p, noText, 0, 0, noText⟩ = (t3, {}) ∧ t3.step ⟨7, q, noText, 0, 5000, noText⟩ = (t3, { data := s }) ∧ t3.step ⟨10, q, noText, 0, 0, noText⟩ = (t3, { kind := 1, links := (n : Int), size := z2 }) := by
  have hstep : t.step ⟨3, p, q, 0, 0, noText⟩ = ((t.link p q).1, { code := (t.link p q).2 }) := rfl
  rw [hstep] at hl
  have hl : (t.link p q).2 = 0 := hl
  obtain ⟨i, hp, hdq, hfq, hlk⟩ := link_zero hl
  have hok1 := h.link p q
  rw [hlk] at hok1
  -- the new name's place
  obtain ⟨l, x, k, h1, h2, h3, h4, h5, h6⟩ : ∃ l x k, lastN q = (l, x, 0) ∧ t.walk [] l 0 = (k, 0) ∧ t.isDir k = true ∧ t.dirC q = 0 ∧ full q = l ++ [x] ∧ splitN q = (full q, 0) := by
    rcases dirTo t q with ⟨c, h1, h2, h3⟩ | ⟨l, x, c, h1, h2, h3, h4⟩ | ⟨l, x, k, h1, h2, h3, h4⟩ | ⟨l, x, k, h1, h2, h3, h4, h5, h6⟩
    · rw [hdq] at h3; rw [← h3] at h2; simp at h2
    · rw [hdq] at h4; rw [← h4] at h3; simp at h3
    · rw [hdq] at h4; cases h4
    · refine ⟨l, x, k, h1, h2, h3, h4, h5, ?_⟩
      rcases lastN_cases q with ⟨c', e, hc'⟩ | ⟨l', x', e, hs'⟩
      · rw [h1] at e; cases e; simp at hc'
      · rw [h1] at e; cases e; rw [h5, hs']
  have hfq' := hfq
  rw [h5] at hfq'
  have hp1 : FileAt (t.named (full q) i) p i := by
    refine ⟨at_of hok1 hp.split ?_, hp.file⟩
    rw [h5, named_idOf hfq', if_neg (fun e => by rw [← h5] at e; rw [← e, hp.find h] at hfq; cases hfq)]
    exact hp.idOf
  have hq1 : FileAt (t.named (full q) i) q i := by
    refine ⟨at_of hok1 h6 ?_, hp.file⟩
    rw [h5, named_idOf hfq', if_pos rfl]
  have hn := links_pos h (hp.find h)
  have hlinks1 : (t.named (full q) i).links i = t.links i + 1 := by rw [named_links, if_pos rfl]
  -- the write
  obtain ⟨t2, hw, ht2⟩ := write_file hok1 hq1 hs
  have h2' : t2.Ok ∧ FileAt t2 p i ∧ FileAt t2 q i ∧ t2.names = (t.named (full q) i).names := by
    rcases ht2 with rfl | ⟨d, hd, rfl⟩
    · exact ⟨hok1, hp1, hq1, rfl⟩
    · exact ⟨hok1.set (hp1.thing hok1) hd, set_at hok1 hp1 hd, set_at hok1 hq1 hd, rfl⟩
  obtain ⟨hok2, hp2, hq2, hnm⟩ := h2'
  have hlinks2 : t2.links i = t.links i + 1 := by
    rw [← hlinks1]
    unfold Tree.links
    rw [hnm]
  -- the name goes
  have hrm : t2.remove p false = (t2.forget (full p), 0) := remove_file (there_dirC hok2 hp2.split (hp2.find hok2)) (hp2.find hok2) hp2.file
  have hok3 : (t2.forget (full p)).Ok := by
    have := hok2.remove p false
    rw [hrm] at this
    exact this
  have hne : full q ≠ full p := fun e => by rw [e, hp.find h] at hfq; cases hfq
  have hfind3 : (t2.forget (full p)).find (full q) = some i := by rw [find_forget hok2 (hp2.find hok2), if_neg hne]; exact hq2.find hok2
  have hth3 : (i, false, t2.dataOf i) ∈ (t2.forget (full p)).things := by
    refine (forget_thing hok2 (hp2.find hok2)).2 ⟨hq2.thing hok2, fun _ => ⟨full q, (find_mem hok2).1 (hq2.find hok2), hne⟩⟩
  have hq3 : FileAt (t2.forget (full p)) q i := ⟨at_of hok3 h6 (find_idOf hok3 hfind3), isDir_of hok3 hth3⟩
  have hd3 := dataOf_of hok3 hth3
  have hlinks3 : (t2.forget (full p)).links i = t.links i := by
    rw [forget_links hok2 (hp2.find hok2), if_pos rfl, hlinks2]
    rfl
  refine ⟨t.named (full q) i, t2, t2.forget (full p), t.links i, ofL (piece (t2.dataOf i).data.toList 0 5000), ((t.named (full q) i).dataOf i).size, (t2.dataOf i).size, ?_, hn, links_few t i, ?_, hw, read_file hp2 5000, read_file hq2 5000, ?_, ?_, ?_⟩
  · rw [hstep, hl, hlk]
  · rw [stat_file hp1, hlinks1]
    rfl
  · show (((t2.remove p false).1, { code := (t2.remove p false).2 }) : Tree × Ans) = _
    rw [hrm]
  · have := read_file hq3 5000
    rw [hd3] at this
    exact this
  · rw [stat_file hq3, hlinks3, hd3]
end Go.Proofs.YtcgpmnlondnbhaaDoor.Sp
