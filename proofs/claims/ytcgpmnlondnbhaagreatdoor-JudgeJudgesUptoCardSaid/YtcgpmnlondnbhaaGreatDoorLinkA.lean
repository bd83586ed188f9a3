/-
  LinkA: SpLinks, SpCounts, SpRenames, TreeLinks, TreeRenames, JudgePlay.
-/
import Derived.Test.YtcgpmnlondnbhaaGreatDoorPlainA
import Derived.Test.YtcgpmnlondnbhaaGreatDoorTreeB
import Derived.Test.YtcgpmnlondnbhaaGreatDoorTreeA
import Derived.Test.YtcgpmnlondnbhaaGreatDoorTreeWorks
import Derived.Test.YtcgpmnlondnbhaaGreatDoorSameAns
import Derived.Test.YtcgpmnlondnbhaaGreatDoorPathA
import Derived.Test.YtcgpmnlondnbhaaGreatDoorJudgeCheck
import Derived.Test.YtcgpmnlondnbhaaGreatDoorForkA
namespace Go.Proofs.YtcgpmnlondnbhaaGreatDoor.Sp
open Go Txt

section
variable {t : Tree}
/-- A path stands for a file. -/
structure FileAt (t : Tree) (p : ByteArray) (i : Nat) : Prop where
  at' : t.at p = (i, 0)
  file : t.isDir i = false
theorem FileAt.idOf {p : ByteArray} {i : Nat} (h : FileAt t p i) : t.idOf (full p) = some i := by
  have := (at_ok t (path := p) (by rw [h.at'])).2.2
  rw [h.at'] at this
  exact this
theorem FileAt.split {p : ByteArray} {i : Nat} (h : FileAt t p i) : splitN p = (full p, 0) := (at_ok t (path := p) (by rw [h.at'])).1
theorem at_of (h : t.Ok) {p : ByteArray} {i : Nat} (hs : splitN p = (full p, 0)) (hi : t.idOf (full p) = some i) : t.at p = (i, 0) := by
  unfold Tree.at
  rw [hs, if_pos rfl]
  exact walk_there h (full p) (pre := []) idOf_nil hi
theorem FileAt.ne_nil (h : t.Ok) {p : ByteArray} {i : Nat} (hp : FileAt t p i) : full p ≠ [] := fun e => by
  have h1 := hp.idOf
  rw [e] at h1
  cases h1
  obtain ⟨d, hr⟩ := h.root
  have h2 := isDir_of h hr
  rw [hp.file] at h2
  cases h2
theorem FileAt.find (h : t.Ok) {p : ByteArray} {i : Nat} (hp : FileAt t p i) : t.find (full p) = some i := by
  rw [← idOf_find (hp.ne_nil h)]
  exact hp.idOf
theorem FileAt.thing (h : t.Ok) {p : ByteArray} {i : Nat} (hp : FileAt t p i) : (i, false, t.dataOf i) ∈ t.things := by
  have := there_idOf h hp.idOf
  rw [hp.file] at this
  exact this
theorem FileAt.fileE {p : ByteArray} {i : Nat} (hp : FileAt t p i) : t.file p = (i, 0) := by
  unfold Tree.file
  rw [hp.at', if_pos rfl, hp.file, if_neg (by simp)]

/-- A path that stands for something stands in a directory. -/
theorem there_dirC (h : t.Ok) {p : ByteArray} {i : Nat} (hs : splitN p = (full p, 0)) (hf : t.find (full p) = some i) : t.dirC p = 0 := by
  have hne := h.ne _ _ ((find_mem h).1 hf)
  rcases dirTo t p with ⟨c, h1, h2, h3⟩ | ⟨l, x, c, h1, h2, h3, h4⟩ | ⟨l, x, k, h1, h2, h3, h4⟩ | ⟨l, x, k, h1, h2, h3, h4, h5, h6⟩
  · exfalso
    unfold lastN at h1
    rw [hs] at h1
    simp [hne] at h1
    rw [← h1.2.2] at h2
    simp at h2
  · exfalso
    have hfull : full p = l ++ [x] := by
      rcases lastN_cases p with ⟨c', e, hc'⟩ | ⟨l', x', e, hs'⟩
      · rw [h1] at e; cases e; simp at hc'
      · rw [h1] at e; cases e; unfold full; rw [hs']
    rw [hfull] at hf
    have hup := h.up _ _ ((find_mem h).1 hf)
    rw [List.dropLast_concat] at hup
    have : ∃ k, t.idOf l = some k := by
      rcases hup with rfl | ⟨k, hk, _⟩
      · exact ⟨0, idOf_nil⟩
      · exact ⟨k, find_idOf h ((find_mem h).2 hk)⟩
    obtain ⟨k, hk⟩ := this
    have := walk_there h l (pre := []) idOf_nil hk
    rw [h2] at this
    cases this
    simp at h3
  · exfalso
    have hfull : full p = l ++ [x] := by
      rcases lastN_cases p with ⟨c', e, hc'⟩ | ⟨l', x', e, hs'⟩
      · rw [h1] at e; cases e; simp at hc'
      · rw [h1] at e; cases e; unfold full; rw [hs']
    rw [hfull] at hf
    have hup := h.up _ _ ((find_mem h).1 hf)
    rw [List.dropLast_concat] at hup
    have hid := walk_ok _ h2 idOf_nil
    rw [List.nil_append] at hid
    rcases hup with rfl | ⟨j, hj, hd⟩
    · cases hid
      obtain ⟨d, hr⟩ := h.root
      rw [isDir_of h hr] at h3
      cases h3
    · have := find_idOf h ((find_mem h).2 hj)
      rw [this] at hid
      cases hid
      rw [hd] at h3
      cases h3
  · exact h4

theorem stat_file {p : ByteArray} {i : Nat} (hp : FileAt t p i) : t.step ⟨10, p, noText, 0, 0, noText⟩ = (t, { kind := 1, links := t.links i, size := (t.dataOf i).size }) := by
  have hb : t.tell ⟨10, p, noText, 0, 0, noText⟩ = { kind := 1, links := t.links i, size := (t.dataOf i).size } := by
    unfold Tree.tell
    simp only
    rw [hp.at', if_pos rfl, if_pos trivial, hp.file, if_neg (by simp)]
  unfold Tree.step
  simp only
  rw [hb]
  rfl
theorem read_file {p : ByteArray} {i : Nat} (hp : FileAt t p i) (n : Nat) : t.step ⟨7, p, noText, 0, n, noText⟩ = (t, { data := ofL (piece (t.dataOf i).data.toList 0 n) }) := by
  have hb : t.bytes ⟨7, p, noText, 0, n, noText⟩ = (t, ofL (piece (t.dataOf i).data.toList 0 n), 0) := by
    unfold Tree.bytes
    simp only
    rw [hp.fileE, if_pos rfl, if_pos trivial, if_neg (by omega)]
    rfl
  unfold Tree.step
  simp only
  rw [hb]
  rfl
theorem write_file (hok : t.Ok) {p data : ByteArray} {i : Nat} (hp : FileAt t p i) (hs : data.size ≤ 500) : ∃ t', t.step ⟨8, p, noText, 3, 0, data⟩ = (t', {}) ∧ (t' = t ∨ ∃ d, d.size ≤ 2560 ∧ t' = t.set i d) := by
  have hsm := hok.small _ _ (hp.thing hok)
  by_cases h0 : data.size = 0
  · refine ⟨t, ?_, Or.inl rfl⟩
    have hb : t.bytes ⟨8, p, noText, 3, 0, data⟩ = (t, ofL [], 0) := by
      unfold Tree.bytes
      simp only
      rw [hp.fileE, if_pos rfl, if_neg (by omega), if_pos trivial, if_neg (by omega), if_neg (by omega), if_pos h0]
    unfold Tree.step
    simp only
    rw [hb]
    rfl
  · refine ⟨t.set i (ofL (writeL (t.dataOf i).data.toList 3 data.data.toList)), ?_, Or.inr ⟨_, ?_, rfl⟩⟩
    · have hb : t.bytes ⟨8, p, noText, 3, 0, data⟩ = (t.set i (ofL (writeL (t.dataOf i).data.toList 3 data.data.toList)), ofL [], 0) := by
        unfold Tree.bytes
        simp only
        rw [hp.fileE, if_pos rfl, if_neg (by omega), if_pos trivial, if_neg (by omega), if_neg (by omega), if_neg h0]
        rfl
      unfold Tree.step
      simp only
      rw [hb]
      rfl
    · rw [Lib.size_eq, ofL_data, writeL_length, ← Lib.size_eq, ← Lib.size_eq]
      omega

theorem link_zero {p q : ByteArray} (hz : (t.link p q).2 = 0) : ∃ i, FileAt t p i ∧ t.dirC q = 0 ∧ t.find (full q) = none ∧ (t.link p q).1 = t.named (full q) i := by
  obtain ⟨i, c, hat⟩ : ∃ i c, t.at p = (i, c) := ⟨_, _, rfl⟩
  by_cases h0 : c = 0
  · subst h0
    cases hd : t.isDir i with
    | true => rw [link_dir hat hd] at hz; cases hz
    | false =>
      obtain ⟨g, hg⟩ : ∃ g, t.dirC q = g := ⟨_, rfl⟩
      by_cases hg0 : g = 0
      · subst hg0
        cases hf : t.find (full q) with
        | some j => rw [link_exist hat hd hg hf] at hz; cases hz
        | none =>
          by_cases hm : 200 ≤ t.links i
          · rw [link_many hat hd hg hf hm] at hz; cases hz
          · exact ⟨i, ⟨hat, hd⟩, hg, by first | exact hf | rfl, by rw [link_ok hat hd hg hf (by omega)]⟩
      · rw [link_err2 hat hd hg hg0] at hz; exact absurd hz hg0
  · rw [link_err (by rw [hat]; exact h0), hat] at hz; exact absurd hz h0

theorem set_at (h : t.Ok) {p : ByteArray} {i : Nat} {d : ByteArray} (hp : FileAt t p i) (hs : d.size ≤ 2560) : FileAt (t.set i d) p i := by
  have hok := h.set (hp.thing h) hs
  refine ⟨at_of hok hp.split ?_, ?_⟩
  · exact hp.idOf
  · have : (i, false, d) ∈ (t.set i d).things := List.mem_map.2 ⟨_, hp.thing h, by simp⟩
    exact isDir_of hok this
end

/-- What TreeLinks asks. -/
theorem links_law {t : Tree} (h : t.Ok) {p q data : ByteArray} (hs : data.size ≤ 500) (hl : (t.step ⟨3, p, q, 0, 0, noText⟩).2.code = 0) :
    ∃ (t1 t2 t3 : Tree) (n : Nat) (s : ByteArray) (z z2 : Int), (t.step ⟨3, p, q, 0, 0, noText⟩) = (t1, {}) ∧ 1 ≤ n ∧ n ≤ t.names.length ∧ t1.step ⟨10, p, noText, 0, 0, noText⟩ = (t1, { kind := 1, links := (n : Int) + 1, size := z }) ∧
      t1.step ⟨8, q, noText, 3, 0, data⟩ = (t2, {}) ∧ t2.step ⟨7, p, noText, 0, 5000, noText⟩ = (t2, { data := s }) ∧ t2.step ⟨7, q, noText, 0, 5000, noText⟩ = (t2, { data := s }) ∧
      t2.step ⟨4, p, noText, 0, 0, noText⟩ = (t3, {}) ∧ t3.step ⟨7, q, noText, 0, 5000, noText⟩ = (t3, { data := s }) ∧ t3.step ⟨10, q, noText, 0, 0, noText⟩ = (t3, { kind := 1, links := (n : Int), size := z2 }) := by
  have hstep : t.step ⟨3, p, q, 0, 0, noText⟩ = ((t.link p q).1, { code := (t.link p q).2 }) := rfl
  rw [hstep] at hl
  have hl : (t.link p q).2 = 0 := hl
  obtain ⟨i, hp, hdq, hfq, hlk⟩ := link_zero hl
  have hok1 := h.link p q
  rw [hlk] at hok1
  -- the new name's place
  obtain ⟨l, x, k, h1, h2, h3, h4, h5, h6⟩ : ∃ l x k, lastN q = (l, x, 0) ∧ t.walk [] l 0 = (k, 0) ∧ t.isDir k = true ∧ t.dirC q = 0 ∧ full q = l ++ [x] ∧ splitN q = (full q, 0) := by
    rcases dirTo t q with ⟨c, h1, h2, h3⟩ | ⟨l, x, c, h1, h2, h3, h4⟩ | ⟨l, x, k, h1, h2, h3, h4⟩ | ⟨l, x, k, h1, h2, h3, h4, h5, h6⟩
    · rw [hdq] at h3; rw [← h3] at h2; simp at h2
    · rw [hdq] at h4; rw [← h4] at h3; simp at h3
    · rw [hdq] at h4; cases h4
    · refine ⟨l, x, k, h1, h2, h3, h4, h5, ?_⟩
      rcases lastN_cases q with ⟨c', e, hc'⟩ | ⟨l', x', e, hs'⟩
      · rw [h1] at e; cases e; simp at hc'
      · rw [h1] at e; cases e; rw [h5, hs']
  have hfq' := hfq
  rw [h5] at hfq'
  have hp1 : FileAt (t.named (full q) i) p i := by
    refine ⟨at_of hok1 hp.split ?_, hp.file⟩
    rw [h5, named_idOf hfq', if_neg (fun e => by rw [← h5] at e; rw [← e, hp.find h] at hfq; cases hfq)]
    exact hp.idOf
  have hq1 : FileAt (t.named (full q) i) q i := by
    refine ⟨at_of hok1 h6 ?_, hp.file⟩
    rw [h5, named_idOf hfq', if_pos rfl]
  have hn := links_pos h (hp.find h)
  have hlinks1 : (t.named (full q) i).links i = t.links i + 1 := by rw [named_links, if_pos rfl]
  -- the write
  obtain ⟨t2, hw, ht2⟩ := write_file hok1 hq1 hs
  have h2' : t2.Ok ∧ FileAt t2 p i ∧ FileAt t2 q i ∧ t2.names = (t.named (full q) i).names := by
    rcases ht2 with rfl | ⟨d, hd, rfl⟩
    · exact ⟨hok1, hp1, hq1, rfl⟩
    · exact ⟨hok1.set (hp1.thing hok1) hd, set_at hok1 hp1 hd, set_at hok1 hq1 hd, rfl⟩
  obtain ⟨hok2, hp2, hq2, hnm⟩ := h2'
  have hlinks2 : t2.links i = t.links i + 1 := by
    rw [← hlinks1]
    unfold Tree.links
    rw [hnm]
  -- the name goes
  have hrm : t2.remove p false = (t2.forget (full p), 0) := remove_file (there_dirC hok2 hp2.split (hp2.find hok2)) (hp2.find hok2) hp2.file
  have hok3 : (t2.forget (full p)).Ok := by
    have := hok2.remove p false
    rw [hrm] at this
    exact this
  have hne : full q ≠ full p := fun e => by rw [e, hp.find h] at hfq; cases hfq
  have hfind3 : (t2.forget (full p)).find (full q) = some i := by rw [find_forget hok2 (hp2.find hok2), if_neg hne]; exact hq2.find hok2
  have hth3 : (i, false, t2.dataOf i) ∈ (t2.forget (full p)).things := by
    refine (forget_thing hok2 (hp2.find hok2)).2 ⟨hq2.thing hok2, fun _ => ⟨full q, (find_mem hok2).1 (hq2.find hok2), hne⟩⟩
  have hq3 : FileAt (t2.forget (full p)) q i := ⟨at_of hok3 h6 (find_idOf hok3 hfind3), isDir_of hok3 hth3⟩
  have hd3 := dataOf_of hok3 hth3
  have hlinks3 : (t2.forget (full p)).links i = t.links i := by
    rw [forget_links hok2 (hp2.find hok2), if_pos rfl, hlinks2]
    rfl
  refine ⟨t.named (full q) i, t2, t2.forget (full p), t.links i, ofL (piece (t2.dataOf i).data.toList 0 5000), ((t.named (full q) i).dataOf i).size, (t2.dataOf i).size, ?_, hn, links_few t i, ?_, hw, read_file hp2 5000, read_file hq2 5000, ?_, ?_, ?_⟩
  · rw [hstep, hl, hlk]
  · rw [stat_file hp1, hlinks1]
    rfl
  · show (((t2.remove p false).1, { code := (t2.remove p false).2 }) : Tree × Ans) = _
    rw [hrm]
  · have := read_file hq3 5000
    rw [hd3] at this
    exact this
  · rw [stat_file hq3, hlinks3, hd3]
end Go.Proofs.YtcgpmnlondnbhaaGreatDoor.Sp

namespace Go.Proofs.YtcgpmnlondnbhaaGreatDoor.Sp
open Go Txt

section
variable {t : Tree}
theorem paths_length (t : Tree) : t.paths.length = t.names.length + 1 := by
  unfold Tree.paths
  rw [List.length_mergeSort, List.length_cons, List.length_map]
theorem forget_one (h : t.Ok) {p : List ByteArray} {i : Nat} (hf : t.find p = some i) : (t.forget p).names.length + 1 = t.names.length := by
  rw [(forget_cases h hf).1]
  have h1 := filter_or (fun x : List ByteArray × Nat => decide (x.1 = p)) (fun x => decide (x.1 ≠ p)) t.names (fun x _ a b => (of_decide_eq_true b) (of_decide_eq_true a))
  have h2 : t.names.filter (fun x => decide (x.1 = p) || decide (x.1 ≠ p)) = t.names := by
    rw [List.filter_eq_self]
    intro x _
    by_cases hx : x.1 = p <;> simp [hx]
  rw [h2, filter_one h.nodup ((find_mem h).1 hf)] at h1
  have := h1.length_eq
  rw [List.length_append, List.length_singleton] at this
  omega

/-- What TreeCounts asks of one operation. -/
structure Counted (t : Tree) (o : Op) : Prop where
  bad : (t.step o).2.code ≠ 0 → (t.step o).1.names.length = t.names.length
  more : (t.step o).2.code = 0 → o.kind = 1 ∨ o.kind = 2 ∨ o.kind = 3 → (t.step o).1.names.length = t.names.length + 1
  less : (t.step o).2.code = 0 → o.kind = 4 ∨ o.kind = 5 → (t.step o).1.names.length + 1 = t.names.length
  turn : (t.step o).2.code = 0 → o.kind = 6 → (t.step o).1.names.length = t.names.length ∨ (t.step ⟨10, o.to, noText, 0, 0, noText⟩).2.code = 0 ∧ (t.step o).1.names.length + 1 = t.names.length
  rest : ¬ (o.kind = 1 ∨ o.kind = 2 ∨ o.kind = 3 ∨ o.kind = 4 ∨ o.kind = 5 ∨ o.kind = 6) → (t.step o).1.names.length = t.names.length

theorem make_count (path : ByteArray) (dir : Bool) : ((t.make path dir).2 ≠ 0 → (t.make path dir).1.names.length = t.names.length) ∧ ((t.make path dir).2 = 0 → (t.make path dir).1.names.length = t.names.length + 1) := by
  unfold Tree.make
  split
  · split
    · exact ⟨fun _ => rfl, fun h => by cases h⟩
    · exact ⟨fun h => absurd rfl h, fun _ => by simp⟩
  · rename_i hc
    exact ⟨fun _ => rfl, fun h => absurd h hc⟩
theorem link_count (path q : ByteArray) : ((t.link path q).2 ≠ 0 → (t.link path q).1.names.length = t.names.length) ∧ ((t.link path q).2 = 0 → (t.link path q).1.names.length = t.names.length + 1) := by
  unfold Tree.link
  split
  · split
    · exact ⟨fun _ => rfl, fun h => by cases h⟩
    · split
      · split
        · exact ⟨fun _ => rfl, fun h => by cases h⟩
        · split
          · exact ⟨fun _ => rfl, fun h => by cases h⟩
          · exact ⟨fun h => absurd rfl h, fun _ => by simp⟩
      · rename_i hc
        exact ⟨fun _ => rfl, fun h => absurd h hc⟩
  · rename_i hc
    exact ⟨fun _ => rfl, fun h => absurd h hc⟩
theorem remove_count (h : t.Ok) (path : ByteArray) (dir : Bool) : ((t.remove path dir).2 ≠ 0 → (t.remove path dir).1.names.length = t.names.length) ∧ ((t.remove path dir).2 = 0 → (t.remove path dir).1.names.length + 1 = t.names.length) := by
  unfold Tree.remove
  split
  · split
    · exact ⟨fun _ => rfl, fun h => by cases h⟩
    · rename_i i hf
      split
      · exact ⟨fun _ => rfl, fun h => by cases h⟩
      · split
        · exact ⟨fun _ => rfl, fun h => by cases h⟩
        · split
          · exact ⟨fun _ => rfl, fun h => by cases h⟩
          · exact ⟨fun h => absurd rfl h, fun _ => forget_one h hf⟩
  · rename_i hc
    exact ⟨fun _ => rfl, fun h => absurd h hc⟩

/-- What is there is told. -/
theorem last_full {q : ByteArray} (h : (lastN q).2.2 = 0) : splitN q = (full q, 0) := by
  rcases lastN_cases q with ⟨c, e, hc⟩ | ⟨l, x, e, hs⟩
  · rw [e] at h
    have h : c = 0 := h
    rw [h] at hc
    simp at hc
  · unfold full; rw [hs]
theorem stat_there (h : t.Ok) {q : ByteArray} {j : Nat} (hs : splitN q = (full q, 0)) (hj : t.idOf (full q) = some j) : (t.step ⟨10, q, noText, 0, 0, noText⟩).2.code = 0 := by
  have hat := at_of h hs hj
  have hb : (t.tell ⟨10, q, noText, 0, 0, noText⟩).code = 0 := by
    unfold Tree.tell
    simp only
    rw [hat, if_pos rfl, if_pos trivial]
    split <;> rfl
  have hst : t.step ⟨10, q, noText, 0, 0, noText⟩ = (t, t.tell ⟨10, q, noText, 0, 0, noText⟩) := by
    unfold Tree.step
    rfl
  rw [hst]
  exact hb
theorem rename_count (h : t.Ok) (path q : ByteArray) : ((t.rename path q).2 ≠ 0 → (t.rename path q).1.names.length = t.names.length) ∧
    ((t.rename path q).2 = 0 → (t.rename path q).1.names.length = t.names.length ∨ (t.step ⟨10, q, noText, 0, 0, noText⟩).2.code = 0 ∧ (t.rename path q).1.names.length + 1 = t.names.length) := by
  unfold Tree.rename
  split
  · split
    · exact ⟨fun _ => rfl, fun h => by cases h⟩
    · rename_i i hf
      split
      · rename_i hl
        split
        · exact ⟨fun _ => rfl, fun h => by cases h⟩
        · split
          · split
            · exact ⟨fun h => absurd rfl h, fun _ => Or.inl (move_length _ _ _ _)⟩
            · rename_i j hg
              split
              · exact ⟨fun _ => rfl, fun _ => Or.inl rfl⟩
              · split
                · exact ⟨fun _ => rfl, fun h => by cases h⟩
                · split
                  · exact ⟨fun _ => rfl, fun h => by cases h⟩
                  · split
                    · exact ⟨fun _ => rfl, fun h => by cases h⟩
                    · exact ⟨fun h => absurd rfl h, fun _ => Or.inr ⟨stat_there h (last_full hl) (find_idOf h hg), by rw [move_length]; exact forget_one h hg⟩⟩
          · rename_i hc
            exact ⟨fun _ => rfl, fun h => absurd h hc⟩
      · rename_i hc
        exact ⟨fun _ => rfl, fun h => absurd h hc⟩
  · rename_i hc
    exact ⟨fun _ => rfl, fun h => absurd h hc⟩
theorem bytes_count (o : Op) : (t.bytes o).1.names.length = t.names.length := by
  unfold Tree.bytes
  split
  · split
    · split <;> rfl
    · split
      · split
        · rfl
        · split
          · rfl
          · split <;> rfl
      · split
        · rfl
        · split <;> rfl
  · rfl

theorem counted (h : t.Ok) (o : Op) : Counted t o := by
  obtain ⟨k, p, q, off, len, d⟩ := o
  by_cases h1 : k = 1
  · subst h1
    have hs : t.step ⟨1, p, q, off, len, d⟩ = ((t.make p false).1, { code := (t.make p false).2 }) := rfl
    have hc := make_count (t := t) p false
    exact ⟨fun h => by rw [hs] at h ⊢; exact hc.1 h, fun h _ => by rw [hs] at h ⊢; exact hc.2 h, fun _ h => by simp at h, fun _ h => by simp at h, fun h => by simp at h⟩
  by_cases h2 : k = 2
  · subst h2
    have hs : t.step ⟨2, p, q, off, len, d⟩ = ((t.make p true).1, { code := (t.make p true).2 }) := rfl
    have hc := make_count (t := t) p true
    exact ⟨fun h => by rw [hs] at h ⊢; exact hc.1 h, fun h _ => by rw [hs] at h ⊢; exact hc.2 h, fun _ h => by simp at h, fun _ h => by simp at h, fun h => by simp at h⟩
  by_cases h3 : k = 3
  · subst h3
    have hs : t.step ⟨3, p, q, off, len, d⟩ = ((t.link p q).1, { code := (t.link p q).2 }) := rfl
    have hc := link_count (t := t) p q
    exact ⟨fun h => by rw [hs] at h ⊢; exact hc.1 h, fun h _ => by rw [hs] at h ⊢; exact hc.2 h, fun _ h => by simp at h, fun _ h => by simp at h, fun h => by simp at h⟩
  by_cases h4 : k = 4
  · subst h4
    have hs : t.step ⟨4, p, q, off, len, d⟩ = ((t.remove p false).1, { code := (t.remove p false).2 }) := rfl
    have hc := remove_count h p false
    exact ⟨fun h => by rw [hs] at h ⊢; exact hc.1 h, fun _ h => by simp at h, fun h _ => by rw [hs] at h ⊢; exact hc.2 h, fun _ h => by simp at h, fun h => by simp at h⟩
  by_cases h5 : k = 5
  · subst h5
    have hs : t.step ⟨5, p, q, off, len, d⟩ = ((t.remove p true).1, { code := (t.remove p true).2 }) := rfl
    have hc := remove_count h p true
    exact ⟨fun h => by rw [hs] at h ⊢; exact hc.1 h, fun _ h => by simp at h, fun h _ => by rw [hs] at h ⊢; exact hc.2 h, fun _ h => by simp at h, fun h => by simp at h⟩
  by_cases h6 : k = 6
  · subst h6
    have hs : t.step ⟨6, p, q, off, len, d⟩ = ((t.rename p q).1, { code := (t.rename p q).2 }) := rfl
    have hc := rename_count h p q
    exact ⟨fun h => by rw [hs] at h ⊢; exact hc.1 h, fun _ h => by simp at h, fun _ h => by simp at h, fun h _ => by rw [hs] at h ⊢; exact hc.2 h, fun h => by simp at h⟩
  have hr : (t.step ⟨k, p, q, off, len, d⟩).1.names.length = t.names.length := by
    unfold Tree.step
    simp only
    rw [if_neg h1, if_neg h2, if_neg h3, if_neg h4, if_neg h5, if_neg h6]
    split
    · exact bytes_count _
    · split <;> rfl
  exact ⟨fun _ => hr, fun _ h => by simp only at h; omega, fun _ h => by simp only at h; omega, fun _ h => by simp only at h; omega, fun _ => hr⟩
end
end Go.Proofs.YtcgpmnlondnbhaaGreatDoor.Sp

namespace Go.Proofs.YtcgpmnlondnbhaaGreatDoor.Sp
open Go Txt

theorem filterMap_same {α β : Type} {f g : α → Option β} : ∀ (l : List α), (∀ x ∈ l, f x = g x) → l.filterMap f = l.filterMap g
  | [], _ => rfl
  | x :: r, h => by
    rw [List.filterMap_cons, List.filterMap_cons, h x (by simp), filterMap_same r (fun y hy => h y (List.mem_cons_of_mem _ hy))]

section
variable {t : Tree}
theorem walk_snoc : ∀ (l : List ByteArray) {pre m : List ByteArray} {i a : Nat}, t.walk pre l i = (a, 0) → t.walk pre (l ++ m) i = t.walk (pre ++ l) m a
  | [], pre, m, i, a, h => by
    unfold Tree.walk at h
    cases h
    rw [List.append_nil, List.nil_append]
  | s :: r, pre, m, i, a, h => by
    unfold Tree.walk at h
    split at h
    · rename_i hd
      cases hf : t.find (pre ++ [s]) with
      | none => rw [hf] at h; cases h
      | some k =>
        rw [hf] at h
        have ih := walk_snoc r (m := m) h
        rw [List.cons_append]
        conv => lhs; unfold Tree.walk
        rw [if_pos hd, hf]
        simp only
        rw [ih, List.append_assoc]
        rfl
    · cases h

/-- A path's last name, in a directory that is there. -/
structure InDir (t : Tree) (p : ByteArray) (l : List ByteArray) (x : ByteArray) (a : Nat) : Prop where
  last : lastN p = (l, x, 0)
  id : t.idOf l = some a
  dir : t.isDir a = true
  full : full p = l ++ [x]
  name : nameB x = true
theorem inDir {p : ByteArray} (h : t.dirC p = 0) : ∃ l x a, InDir t p l x a := by
  rcases dirTo t p with ⟨c, h1, h2, h3⟩ | ⟨l, x, c, h1, h2, h3, h4⟩ | ⟨l, x, i, h1, h2, h3, h4⟩ | ⟨l, x, i, h1, h2, h3, h4, h5, h6⟩
  · rw [h] at h3; rw [← h3] at h2; simp at h2
  · rw [h] at h4; rw [← h4] at h3; simp at h3
  · rw [h] at h4; cases h4
  · exact ⟨l, x, i, h1, walk_ok _ h2 idOf_nil, h3, h5, h6⟩
theorem InDir.dirC (h : t.Ok) {p : ByteArray} {l : List ByteArray} {x : ByteArray} {a : Nat} (hp : InDir t p l x a) : t.dirC p = 0 := by
  unfold Tree.dirC
  rw [hp.last]
  simp only
  rw [walk_there h l (pre := []) idOf_nil hp.id, if_pos trivial, if_pos rfl, if_pos hp.dir]
theorem InDir.split {p : ByteArray} {l : List ByteArray} {x : ByteArray} {a : Nat} (hp : InDir t p l x a) : splitN p = (Sp.full p, 0) := last_full (by rw [hp.last])

theorem rename_zero {p q : ByteArray} (hz : (t.rename p q).2 = 0) : ∃ i, t.dirC p = 0 ∧ t.find (full p) = some i ∧ (lastN q).2.2 = 0 ∧ ¬ (t.isDir i = true ∧ full p <+: full q ∧ p ≠ q) ∧ t.dirC q = 0 := by
  obtain ⟨c, hc⟩ : ∃ c, t.dirC p = c := ⟨_, rfl⟩
  by_cases h0 : c = 0
  rotate_left
  · rw [rename_err hc h0] at hz; exact absurd hz h0
  subst h0
  cases hf : t.find (full p) with
  | none => rw [rename_none hc hf] at hz; cases hz
  | some i =>
    obtain ⟨g, hg⟩ : ∃ g, (lastN q).2.2 = g := ⟨_, rfl⟩
    by_cases hg0 : g = 0
    rotate_left
    · rw [rename_err2 hc hf hg hg0] at hz; exact absurd hz hg0
    subst hg0
    by_cases hl : t.isDir i = true ∧ full p <+: full q ∧ p ≠ q
    · rw [rename_loop hc hf hg hl] at hz; cases hz
    obtain ⟨d, hd⟩ : ∃ d, t.dirC q = d := ⟨_, rfl⟩
    by_cases hd0 : d = 0
    rotate_left
    · rw [rename_err3 hc hf hg hl hd hd0] at hz; exact absurd hz hd0
    subst hd0
    exact ⟨i, hc, by first | exact hf | rfl, hg, hl, hd⟩

theorem rename_was (h : t.Ok) {p q : ByteArray} (hz : (t.rename p q).2 = 0) : (t.step ⟨10, p, noText, 0, 0, noText⟩).2.code = 0 := by
  obtain ⟨i, h1, h2, _⟩ := rename_zero hz
  obtain ⟨l, x, a, hp⟩ := inDir h1
  exact stat_there h hp.split (find_idOf h h2)

theorem tell_stat_eq (t : Tree) (p : ByteArray) : t.step ⟨10, p, noText, 0, 0, noText⟩ = (t, t.tell ⟨10, p, noText, 0, 0, noText⟩) := rfl
theorem tell_stat_at {p : ByteArray} {i : Nat} (h : t.at p = (i, 0)) : t.tell ⟨10, p, noText, 0, 0, noText⟩ = if t.isDir i = true then { kind := 2, links := 1, size := (t.kidsL (full p)).length } else { kind := 1, links := t.links i, size := (t.dataOf i).size } := by
  unfold Tree.tell
  simp only
  rw [h, if_pos rfl, if_pos trivial]

/-- What is right below a path is right below the other one. -/
theorem kidsL_move (h : t.Ok) {p q : List ByteArray} {i : Nat} (hp : (p, i) ∈ t.names) (hq : t.find q = none) (hq0 : q ≠ []) : (t.move (t.isDir i) p q).kidsL q = t.kidsL p := by
  have hp0 := h.ne _ _ hp
  unfold Tree.kidsL
  rw [move_names h hp, List.filterMap_map]
  refine filterMap_same _ (fun x hx => ?_)
  show (if (mv p q x).1.dropLast = q then (mv p q x).1.getLast? else none) = _
  unfold mv
  by_cases hpre : p <+: x.1
  · rw [if_pos hpre]
    obtain ⟨r, hr⟩ := hpre
    rw [← hr, List.drop_left]
    simp only
    induction r using snocInd with
    | nil =>
      rw [List.append_nil, List.append_nil, if_neg, if_neg]
      · intro e
        have := congrArg List.length e
        rw [List.length_dropLast] at this
        have : 0 < p.length := List.length_pos_iff.2 hp0
        omega
      · intro e
        have := congrArg List.length e
        rw [List.length_dropLast] at this
        have : 0 < q.length := List.length_pos_iff.2 hq0
        omega
    | append_singleton r s _ =>
      rw [← List.append_assoc, ← List.append_assoc, List.dropLast_concat, List.dropLast_concat, List.getLast?_concat, List.getLast?_concat]
      by_cases hr0 : r = []
      · subst hr0; simp
      · rw [if_neg, if_neg]
        · intro e; exact hr0 (by simpa using e)
        · intro e; exact hr0 (by simpa using e)
  · rw [if_neg hpre, if_neg, if_neg]
    · intro e
      obtain ⟨x1, x2⟩ := x
      simp only at e hpre
      have hne := h.ne _ _ hx
      exact hpre ⟨[x1.getLast hne], by rw [← e]; exact List.dropLast_concat_getLast hne⟩
    · intro e
      obtain ⟨x1, x2⟩ := x
      simp only at e
      have hne := h.ne _ _ hx
      have : x1 = q ++ [x1.getLast hne] := by rw [← e]; exact (List.dropLast_concat_getLast hne).symm
      rw [this] at hx
      exact no_below h hq hq0 hx

theorem renames_law (h : t.Ok) {p q : ByteArray} (hz : (t.rename p q).2 = 0) (hpq : p ≠ q) (hth : (t.step ⟨10, q, noText, 0, 0, noText⟩).2.code ≠ 0) :
    ∃ t1 k l s g, t.step ⟨6, p, q, 0, 0, noText⟩ = (t1, {}) ∧ t.step ⟨10, p, noText, 0, 0, noText⟩ = (t, ⟨0, k, l, s, ofL [], []⟩) ∧ t1.step ⟨10, q, noText, 0, 0, noText⟩ = (t1, ⟨0, k, l, s, ofL [], []⟩) ∧
      t1.step ⟨10, p, noText, 0, 0, noText⟩ = (t1, g) ∧ g.code = 100 ∧ t1.names.length = t.names.length ∧ underN p q = (false, 0) ∧ t1.step ⟨6, q, p, 0, 0, noText⟩ = (t, {}) := by
  obtain ⟨i, hcp, hf, hlq, hloop, hcq⟩ := rename_zero hz
  obtain ⟨lp, x, a, hp⟩ := inDir hcp
  obtain ⟨lq, y, k, hq⟩ := inDir hcq
  have hfq : t.find (full q) = none := by
    cases hg : t.find (full q) with
    | none => rfl
    | some j => exact absurd (stat_there h hq.split (find_idOf h hg)) hth
  have hren := rename_new hcp hf hlq hloop hcq hfq
  have hmem := (find_mem h).1 hf
  have hQ0 : full q ≠ [] := by rw [hq.full]; simp
  have hloop' : t.isDir i = true → ¬ full p <+: full q := fun hd hpre => hloop ⟨hd, hpre, hpq⟩
  have hnot : ¬ full p <+: full q := by
    cases hd : t.isDir i with
    | true => exact hloop' hd
    | false =>
      rintro ⟨r, hr⟩
      induction r using snocInd with
      | nil => rw [List.append_nil] at hr; rw [hr, hfq] at hf; cases hf
      | append_singleton r s _ =>
        rw [hq.full, ← List.append_assoc] at hr
        have hr1 : full p ++ r = lq := by
          have := congrArg List.dropLast hr
          rwa [List.dropLast_concat, List.dropLast_concat] at this
        have hk := hq.id
        rw [← hr1, idOf_find (by intro e; exact h.ne _ _ hmem (List.append_eq_nil_iff.1 e).1)] at hk
        have := below_file h hmem hd ((find_mem h).1 hk)
        subst this
        rw [List.append_nil, hf] at hk
        cases hk
        have := hq.dir
        rw [hd] at this
        cases this
  have hnot2 : ¬ full q <+: full p := by
    rintro ⟨r, hr⟩
    exact no_below h hfq hQ0 (by rw [hr]; exact hmem)
  have hok1 : (t.move (t.isDir i) (full p) (full q)).Ok := by
    rw [hq.full]
    exact h.move hmem hq.id hq.dir hq.name (by rw [← hq.full]; exact hfq) (by rw [← hq.full]; exact hloop')
  have hF : ∀ r, (t.move (t.isDir i) (full p) (full q)).find r = if full q <+: r then t.find (full p ++ r.drop (full q).length) else if full p <+: r then none else t.find r := by
    intro r
    have := find_move h hmem hq.id hq.dir hq.name (by rw [← hq.full]; exact hfq) (by rw [← hq.full]; exact hloop') r
    rw [← hq.full] at this
    exact this
  obtain ⟨t1, ht1⟩ : ∃ t1, t.move (t.isDir i) (full p) (full q) = t1 := ⟨_, rfl⟩
  have hdir1 : ∀ j, t1.isDir j = t.isDir j := fun j => by rw [← ht1]; rfl
  have hnames1 : t1.names = t.names.map (mv (full p) (full q)) := by rw [← ht1]; exact move_names h hmem
  have hlinks1 : ∀ j, t1.links j = t.links j := fun j => by rw [← ht1]; exact move_links _ _ _ _
  have hdata1 : ∀ j, t1.dataOf j = t.dataOf j := fun j => by rw [← ht1]; rfl
  have hkids1 : t1.kidsL (full q) = t.kidsL (full p) := by rw [← ht1]; exact kidsL_move h hmem hfq hQ0
  have hthings : ∀ (d : Bool) (u v : List ByteArray), (t1.move d u v).things = t.things ∧ (t1.move d u v).many = t.many := fun d u v => by rw [← ht1]; exact ⟨rfl, rfl⟩
  rw [ht1] at hok1 hF hren
  -- what is found there
  have hfQ : t1.find (full q) = some i := by rw [hF, if_pos (List.prefix_refl _), List.drop_length, List.append_nil]; exact hf
  have hfP : t1.find (full p) = none := by rw [hF, if_neg hnot2, if_pos (List.prefix_refl _)]
  have hlow : ∀ (l : List ByteArray) (b : Nat), t.idOf l = some b → ¬ full q <+: l → ¬ full p <+: l → t1.idOf l = some b := by
    intro l b hl n1 n2
    by_cases h0 : l = []
    · subst h0; exact hl
    · rw [idOf_find h0] at hl ⊢
      rw [hF, if_neg n1, if_neg n2]
      exact hl
  have hlen : ∀ (l : List ByteArray) (s : ByteArray), ¬ l ++ [s] <+: l := fun l s hpre => by
    have := hpre.length_le
    rw [List.length_append, List.length_singleton] at this
    omega
  have hp1 : InDir t1 p lp x a := by
    refine ⟨hp.last, hlow lp a hp.id (fun hpre => ?_) (by rw [hp.full]; exact hlen lp x), by rw [hdir1]; exact hp.dir, hp.full, hp.name⟩
    exact hnot2 (hpre.trans ⟨[x], hp.full.symm⟩)
  have hq1 : InDir t1 q lq y k := by
    refine ⟨hq.last, hlow lq k hq.id (by rw [hq.full]; exact hlen lq y) (fun hpre => ?_), by rw [hdir1]; exact hq.dir, hq.full, hq.name⟩
    exact hnot (hpre.trans ⟨[y], hq.full.symm⟩)
  have hatP : t.at p = (i, 0) := at_of h hp.split (find_idOf h hf)
  have hatQ : t1.at q = (i, 0) := at_of hok1 hq.split (find_idOf hok1 hfQ)
  have hatP1 : t1.at p = (0, 100) := by
    unfold Tree.at
    rw [hp.split, if_pos rfl]
    show t1.walk [] (full p) 0 = _
    rw [hp.full, walk_snoc lp (walk_there hok1 lp (pre := []) idOf_nil hp1.id)]
    unfold Tree.walk
    rw [if_pos hp1.dir, List.nil_append, ← hp.full, hfP]
  have hback : t1.rename q p = (t, 0) := by
    have h1 := rename_new (hq1.dirC hok1) hfQ (by rw [hp.last] : (lastN p).2.2 = 0) (fun hc => hnot2 hc.2.1) (hp1.dirC hok1) hfP
    rw [h1, hdir1]
    have hn : (t1.move (t.isDir i) (full q) (full p)).names = t.names := by
      have h2 := move_names hok1 ((find_mem hok1).1 hfQ) (q := full p)
      rw [hdir1] at h2
      rw [h2, hnames1, List.map_map]
      conv => rhs; rw [← List.map_id t.names]
      refine List.map_congr_left (fun z hz => ?_)
      show mv (full q) (full p) (mv (full p) (full q) z) = z
      unfold mv
      by_cases hpre : full p <+: z.1
      · rw [if_pos hpre]
        obtain ⟨r, hr⟩ := hpre
        obtain ⟨z1, z2⟩ := z
        simp only at hr ⊢
        rw [← hr, List.drop_left, if_pos (List.prefix_append _ _), List.drop_left]
      · rw [if_neg hpre, if_neg]
        rintro ⟨r, hr⟩
        obtain ⟨z1, z2⟩ := z
        simp only at hr
        exact no_below h hfq hQ0 (by rw [hr]; exact hz)
    obtain ⟨h3, h4⟩ := hthings (t.isDir i) (full q) (full p)
    have : t1.move (t.isDir i) (full q) (full p) = t := by
      generalize t1.move (t.isDir i) (full q) (full p) = u at hn h3 h4
      cases u
      cases t
      simp only at hn h3 h4
      rw [hn, h3, h4]
    rw [this]
  have hstep : t.step ⟨6, p, q, 0, 0, noText⟩ = (t1, {}) := by
    show ((t.rename p q).1, ({ code := (t.rename p q).2 } : Ans)) = _
    rw [hren]
  have hstep2 : t1.step ⟨6, q, p, 0, 0, noText⟩ = (t, {}) := by
    show ((t1.rename q p).1, ({ code := (t1.rename q p).2 } : Ans)) = _
    rw [hback]
  have hunder : underN p q = (false, 0) := by
    rw [under_full (by rw [hp.last]) hlq, decide_eq_false hnot]
  have hnl : t1.names.length = t.names.length := by rw [hnames1, List.length_map]
  have hgone : (t1.tell ⟨10, p, noText, 0, 0, noText⟩).code = 100 := by
    unfold Tree.tell
    simp only
    rw [hatP1, if_neg (by decide)]
  have e1 := tell_stat_at hatP
  have e2 := tell_stat_at hatQ
  rw [hdir1, hkids1, hlinks1, hdata1] at e2
  cases hd : t.isDir i with
  | true =>
    rw [hd, if_pos rfl] at e1 e2
    exact ⟨t1, _, _, _, _, hstep, by rw [tell_stat_eq, e1], by rw [tell_stat_eq, e2], rfl, hgone, hnl, hunder, hstep2⟩
  | false =>
    rw [hd, if_neg (by simp)] at e1 e2
    exact ⟨t1, _, _, _, _, hstep, by rw [tell_stat_eq, e1], by rw [tell_stat_eq, e2], rfl, hgone, hnl, hunder, hstep2⟩
end
end Go.Proofs.YtcgpmnlondnbhaaGreatDoor.Sp

namespace Go.Proofs.YtcgpmnlondnbhaaGreatDoor
open Go Go.RowKit Txt Sp

theorem Texts.void_any {w : World} {v : Value} (h : Texts w v []) (w' : World) : Texts w' v [] :=
  let ⟨ad, cap, hv, h1, h2, _⟩ := h
  ⟨ad, cap, hv, h1, h2, fun h0 => absurd h0 (by simp)⟩
theorem apart_cells2 {D : Nat → Prop} {w : World} {n : Nat} {cs : Array Value} {e : TypeId} (h : Apart D w n (.cells cs e (0, 0))) (a b : Obj) (k : Nat) : ((w.alloc a).alloc b).cell? ⟨n, k, none⟩ = cs[k]? := by
  have hb : Below w.heap.size w ((w.alloc a).alloc b) := ((Below.refl w.heap.size w).alloc (Nat.le_refl _) _).alloc (by simp) _
  have := (h.below hb).1
  simp [World.cell?, this]
theorem apart_cells {D : Nat → Prop} {w : World} {n : Nat} {cs : Array Value} {e : TypeId} (h : Apart D w n (.cells cs e (0, 0))) (k : Nat) : w.cell? ⟨n, k, none⟩ = cs[k]? := by simp [World.cell?, h.1]

section
set_option maxHeartbeats 2000000
end
end Go.Proofs.YtcgpmnlondnbhaaGreatDoor

namespace Go.Proofs.YtcgpmnlondnbhaaGreatDoor
open Go Go.RowKit Txt Sp

/-- A slice of texts that lies beside the tree. -/
def Kept (D : Nat → Prop) (w : World) (v : Value) (l : List ByteArray) : Prop := ∃ n, OwnTexts n w v l ∧ ∀ g, v.ownBlock = some g → ¬ D g
theorem own_lt {n : Nat} {w : World} {v : Value} {l : List ByteArray} (h : OwnTexts n w v l) : ∀ g, v.ownBlock = some g → n ≤ g ∧ g < w.heap.size := by
  obtain ⟨e, h⟩ := h
  exact h.lt
theorem Kept.turn {D D' : Nat → Prop} {w w' : World} {v : Value} {l : List ByteArray} (h : Kept D w v l) (hT : Turn D w w') (hd : ∀ j, D' j → D j ∨ w.heap.size ≤ j) : Kept D' w' v l := by
  obtain ⟨n, ho, ha⟩ := h
  refine ⟨n, ?_, fun g hg hj => (hd g hj).elim (ha g hg) (fun hle => by have := (own_lt ho g hg).2; omega)⟩
  obtain ⟨e, ho⟩ := ho
  exact ⟨e, owns_same ho (fun k o hk hh => hT.heap hh (ha k hk))⟩
theorem Kept.below {D : Nat → Prop} {w w' : World} {v : Value} {l : List ByteArray} (h : Kept D w v l) (hb : Below w.heap.size w w') : Kept D w' v l := by
  obtain ⟨n, ⟨e, ho⟩, ha⟩ := h
  exact ⟨n, ⟨e, owns_same ho (fun k o _ hh => heap_below hb _ _ hh)⟩, ha⟩
theorem Kept.texts {D : Nat → Prop} {w : World} {v : Value} {l : List ByteArray} (h : Kept D w v l) : Texts w v l := let ⟨_, ho, _⟩ := h; ho.texts
theorem Live.keeps {w0 w w' : World} {B : Nat} {t : Sp.Tree} {k : Nat} {D : Nat → Prop} (h : Live w0 w B t k D) {v : Value} {l : List ByteArray} (ho : OwnTexts w.heap.size w' v l) : Kept D w' v l :=
  ⟨_, ho, fun g hg hj => by have := (own_lt ho g hg).1; have := (h.from0 g hj).2; omega⟩
/-- An answer laid into a block of its own. -/
theorem Live.stored {w0 w : World} {B : Nat} {t : Sp.Tree} {k : Nat} {D : Nat → Prop} (h : Live w0 w B t k D) (cs : Array Value) (e : TypeId) :
    ∃ W, w.alloc (.cells cs e) = W ∧ Hid (Live w0 W B t k D) ∧ Hid (Apart D W w.heap.size (.cells cs e (0, 0))) ∧ Hid (Below w.heap.size w W) :=
  ⟨_, rfl, h.below ((Below.refl _ _).alloc (Nat.le_refl _) _), h.apart (Nat.le_refl _) (heap_alloc_new w _), (Below.refl _ _).alloc (Nat.le_refl _) _⟩

section
set_option maxHeartbeats 8000000
end
end Go.Proofs.YtcgpmnlondnbhaaGreatDoor

namespace Go.Proofs.YtcgpmnlondnbhaaGreatDoor
open Go Go.RowKit Txt Sp

/-- Behind play: the tree goes on, beside what was. -/
def PlayPost (w0 w : World) (t : Sp.Tree) (k : Nat) (x : Sp.Did) (e : Ending) (w' : World) : Prop :=
  ∃ B' D' r, e = .returned (.tuple #[ptr B', .bool r]) ∧ r = (playN t x).2 ∧ Live w0 w' B' (playN t x).1 (k + 1) D' ∧ Below w.heap.size w w'

theorem Live.more {w0 w : World} {B : Nat} {t : Sp.Tree} {k k' : Nat} {D : Nat → Prop} (h : Live w0 w B t k D) (hk : k ≤ k') : Live w0 w B t k' D := ⟨h.ok, Nat.le_trans h.few hk, h.low, h.rep, h.from0, h.max0⟩

section
set_option maxHeartbeats 8000000
set_option maxRecDepth 20000 in
theorem judgePlay_any {w0 w : World} {B : Nat} {t : Sp.Tree} {k : Nat} {D : Nat → Prop} (hL : Live w0 w B t k D) {x : Sp.Did} {na : Option Addr} {nc : Nat} (ht : Texts w (.slice na x.a.names.length nc) x.a.names) (ho : OpOk x.o) (hk : k ≤ 100000) :
    Calls Tryz.prog 46 #[ptr B, .agg (didA x (.slice na x.a.names.length nc))] w (PlayPost w0 w t k x) := by
  obtain ⟨node, task, frm, till, ⟨ok, op, ot, oo, ol, od⟩, ⟨ac, ak, al, as_, ad, an⟩⟩ := x
  have HL := Lib.hid hL
  have HT := Lib.hid ht
  have HO := Lib.hid ho
  have HK := Lib.hid hk
  simp only at HT HO
  have hb0 := (Below.refl w.heap.size w).alloc (Nat.le_refl _) (.cells (didA ⟨node, task, frm, till, ⟨ok, op, ot, oo, ol, od⟩, ⟨ac, ak, al, as_, ad, an⟩⟩ (.slice na an.length nc)) 81)
  have hx0 := heap_alloc_new w (.cells (didA ⟨node, task, frm, till, ⟨ok, op, ot, oo, ol, od⟩, ⟨ac, ak, al, as_, ad, an⟩⟩ (.slice na an.length nc)) 81)
  unfold didA at hb0 hx0 ⊢
  simp only at hb0 hx0 ⊢
  have HB0 := Lib.hid hb0
  have HX0 := Lib.hid hx0
  clear hL ht ho hk hb0 hx0
  obtain ⟨t', c, c1, c2, c3, cd, cn, hs⟩ : ∃ t' c c1 c2 ck cd cn, t.step ⟨ok, op, ot, oo, ol, od⟩ = (t', ⟨c, c1, c2, ck, cd, cn⟩) := ⟨_, _, _, _, _, _, _, rfl⟩
  have HS := Lib.hid hs
  clear hs
  unfold ptr
  go_enter Tryz.func46, Tryz.ntmps46
  go_wp2_with fail
  refine (fork_live (HL.out.below HB0.out) HK.out).mono ?_
  rintro e w1 ⟨B1, D1, rfl, l1, hb1, hd1⟩
  have L1 := Lib.hid l1
  have A1 : Hid (Apart D1 w1 w.heap.size _) := ⟨heap_below hb1 _ _ HX0.out, fun hj => by
    have h1 := hd1 _ hj
    have h2 := (Array.getElem?_eq_some_iff.1 HX0.out).1
    omega⟩
  have HB1 := Lib.hid (below_next HB0.out hb1)
  have c1x := apart_cells A1.out
  have hd1' : Hid (∀ j, D1 j → w.heap.size < j) := fun j hj => by
    have h1 := hd1 j hj
    have h2 := (Array.getElem?_eq_some_iff.1 HX0.out).1
    omega
  clear l1 hb1 hd1
  unfold ptr
  go_wp2_with fail
  clear c1x
  refine (do_known HS.out L1.out HO.out HK.out).mono ?_
  rintro e w2 ⟨ad2, cap2, D2, rfl, x2, l2, t2, d2⟩
  have A2 := Lib.hid (A1.out.turn t2 d2)
  have HB2 : Hid (Below w.heap.size w w2) := HB1.out.trans (t2.below (n := w.heap.size) (fun j hj => Nat.le_of_lt (hd1'.out j hj)) HB1.out.size)
  obtain ⟨W2, hW2, M2, S2, B2⟩ := l2.stored #[.int .i64 c, .int .i64 c1, .int .i64 c2, .int .i64 c3, .string cd, .slice ad2 cn.length cap2] 32
  have A3 := Lib.hid (A2.out.below B2.out)
  have HB3 : Hid (Below w.heap.size w W2) := below_next HB2.out B2.out
  have X2 : Hid (Texts W2 (.slice ad2 cn.length cap2) cn) := x2.below B2.out
  have T2 : Hid (Texts W2 (.slice na an.length nc) an) := HT.out.below HB3.out
  obtain ⟨n2, hn2⟩ : ∃ n2, w2.heap.size = n2 := ⟨_, rfl⟩
  rw [hn2] at S2
  have ca := apart_cells A3.out
  have cs := apart_cells S2.out
  have LB : Hid (Live w0 W2 B t k D) := HL.out.below HB3.out
  clear l2 t2 d2 x2 L1 A1 A2 HB1 HB2 B2 HB0 HX0 hd1' HT HL
  by_cases hfull : ac = 109 ∧ c = 0
  · obtain ⟨rfl, rfl⟩ := hfull
    have HP : Hid (playN t ⟨node, task, frm, till, ⟨ok, op, ot, oo, ol, od⟩, ⟨109, ak, al, as_, ad, an⟩⟩ = (t, decide ((⟨109, ak, al, as_, ad, an⟩ : Sp.Ans) = { code := 109 }))) := by
      show playN _ _ = _
      unfold playN
      rw [if_pos ⟨rfl, by rw [HS.out]⟩]
    go_wp2_with fail
    clear ca cs
    refine (judgeSame_any W2 (a := ⟨109, ak, al, as_, ad, an⟩) (b := { code := 109 }) ⟨_, rfl, T2.out⟩ ⟨_, rfl, (OwnTexts.void 0 W2).texts⟩).mono ?_
    rintro e w3 ⟨r, rfl, hr, hb3⟩
    have L3 := Lib.hid ((LB.out.below hb3).more (Nat.le_succ k))
    have HB4 := Lib.hid (below_next HB3.out hb3)
    have HR := Lib.hid hr
    clear hr hb3
    go_wp2
    go_ret2
    refine ⟨B, D, r, rfl, ?_, ?_, HB4.out⟩
    · rw [HP.out]
      show r = decide _
      rw [Bool.eq_iff_iff, HR.out, decide_eq_true_iff]
    · rw [HP.out]
      exact L3.out
  · have HP : Hid (playN t ⟨node, task, frm, till, ⟨ok, op, ot, oo, ol, od⟩, ⟨ac, ak, al, as_, ad, an⟩⟩ = (t', decide ((⟨ac, ak, al, as_, ad, an⟩ : Sp.Ans) = ⟨c, c1, c2, c3, cd, cn⟩))) := by
      show playN _ _ = _
      unfold playN
      rw [if_neg (by rw [HS.out]; exact hfull), HS.out]
    have hor : ac ≠ 109 ∨ ac = 109 ∧ c ≠ 0 := by
      by_cases h : ac = 109
      · exact Or.inr ⟨h, fun h0 => hfull ⟨h, h0⟩⟩
      · exact Or.inl h
    clear hfull
    rcases hor with h | ⟨rfl, h⟩
    · have f : (ac == 109) = false := beq_eq_false_iff_ne.2 h
      clear h
      go_wp2_with fail
      clear ca cs
      refine (judgeSame_any W2 (a := ⟨_, ak, al, as_, ad, an⟩) (b := ⟨c, c1, c2, c3, cd, cn⟩) ⟨_, rfl, T2.out⟩ ⟨_, rfl, X2.out⟩).mono ?_
      rintro e w3 ⟨r, rfl, hr, hb3⟩
      have L3 := Lib.hid (M2.out.below hb3)
      have HB4 := Lib.hid (below_next HB3.out hb3)
      have HR := Lib.hid hr
      clear hr hb3
      go_wp2
      go_ret2
      refine ⟨B1, D2, r, rfl, ?_, ?_, HB4.out⟩
      · rw [HP.out]
        show r = decide _
        rw [Bool.eq_iff_iff, HR.out, decide_eq_true_iff]
      · rw [HP.out]
        exact L3.out
    · have f : (c == 0) = false := beq_eq_false_iff_ne.2 h
      clear h
      go_wp2_with fail
      clear ca cs
      refine (judgeSame_any W2 (a := ⟨_, ak, al, as_, ad, an⟩) (b := ⟨c, c1, c2, c3, cd, cn⟩) ⟨_, rfl, T2.out⟩ ⟨_, rfl, X2.out⟩).mono ?_
      rintro e w3 ⟨r, rfl, hr, hb3⟩
      have L3 := Lib.hid (M2.out.below hb3)
      have HB4 := Lib.hid (below_next HB3.out hb3)
      have HR := Lib.hid hr
      clear hr hb3
      go_wp2
      go_ret2
      refine ⟨B1, D2, r, rfl, ?_, ?_, HB4.out⟩
      · rw [HP.out]
        show r = decide _
        rw [Bool.eq_iff_iff, HR.out, decide_eq_true_iff]
      · rw [HP.out]
        exact L3.out
end
end Go.Proofs.YtcgpmnlondnbhaaGreatDoor
