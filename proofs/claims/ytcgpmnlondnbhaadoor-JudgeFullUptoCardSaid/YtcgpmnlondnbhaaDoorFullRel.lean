/-
  JudgeFull: the worlds and logs of its walk. No walk in this text.
-/
import Derived.Test.YtcgpmnlondnbhaaDoorOpsMore
import Derived.Test.YtcgpmnlondnbhaaDoorJudgeCopied
import Derived.Test.YtcgpmnlondnbhaaDoorJudgeWorks
import Derived.Test.YtcgpmnlondnbhaaDoorJudgeFine
import Derived.Test.YtcgpmnlondnbhaaDoorSpFull
import Derived.Test.YtcgpmnlondnbhaaDoorSpCounts
import Derived.Test.YtcgpmnlondnbhaaDoorSpEmpty
namespace Go.Proofs.YtcgpmnlondnbhaaDoor
open Go Go.RowKit Txt Sp

/-- A slice of operations; where it is nil it has no room. -/
def OpsN (w : World) (v : Value) (l : List Sp.Op) : Prop := ∃ ad cap, v = .slice ad l.length cap ∧ Ops w v l ∧ (ad = none → l.length = 0 ∧ cap = 0)
theorem OpsN.below {w w' : World} {v : Value} {l : List Sp.Op} (h : OpsN w v l) (hb : Below w.heap.size w w') : OpsN w' v l :=
  let ⟨ad, cap, h1, h2, h3⟩ := h
  ⟨ad, cap, h1, h2.below hb, h3⟩

set_option maxRecDepth 100000 in
theorem ops_nil_of {H : Type} {enc : TypeId × Value → H} {W : World} {base : Nat} {v : Value} {d : DataW H} {ps : List MemPlace} (hval : Value.okWide Tryd.prog W .any base 38 v)
    (h : DataW.Trod enc Tryd.prog W 0 (fun _ => true) true 38 v d ps) : ∃ ad len cap, v = .slice ad len cap ∧ (ad = none → len = 0 ∧ cap = 0) := by
  obtain ⟨a0, len, cap, rfl⟩ := Go.WideShapes.okWide_slice Tryd.underlying38 hval
  obtain ⟨fuel, hf⟩ := h
  rcases Go.Deep.open_slice Tryd.underlying38 hf with ⟨hcs, hx⟩ | ⟨a, len', cap', m, n, D, Pl, hcs, _⟩
  · simp [Value.cells] at hcs
    obtain ⟨rfl, rfl, rfl⟩ := hcs
    exact ⟨_, _, _, rfl, fun _ => ⟨rfl, rfl⟩⟩
  · simp [Value.cells] at hcs
    obtain ⟨rfl, rfl, rfl⟩ := hcs
    exact ⟨_, _, _, rfl, fun h => by cases h⟩
theorem Ops.nil {w : World} {v : Value} {l : List Sp.Op} (h : Ops w v l) (hn : ∃ ad len cap, v = .slice ad len cap ∧ (ad = none → len = 0 ∧ cap = 0)) : OpsN w v l := by
  obtain ⟨ad, cap, hv, h1, h2, h3⟩ := id h
  obtain ⟨ad', len, cap', hv', hz⟩ := hn
  subst hv
  cases hv'
  exact ⟨_, _, rfl, h, hz⟩
theorem own_form {n : Nat} {w : World} {v : Value} {l : List ByteArray} (h : OwnTexts n w v l) : ∃ ad cap, v = .slice ad l.length cap := by
  obtain ⟨e, _, h2⟩ := h
  rcases h2 with ⟨rfl, h4⟩ | ⟨g, c, cur, rfl, _⟩
  · exact ⟨none, 0, by rw [h4]⟩
  · exact ⟨_, _, rfl⟩
theorem own_nil {n : Nat} {w : World} {ad : Option Addr} {cap : Nat} {l : List ByteArray} (h : OwnTexts n w (.slice ad l.length cap) l) : ad = none → l.length = 0 ∧ cap = 0 := by
  rintro rfl
  obtain ⟨e, _, h2⟩ := h
  rcases h2 with ⟨h3, h4⟩ | ⟨g, c, cur, h3, _⟩
  · injection h3 with _ e1 e2
    exact ⟨e1, e2⟩
  · injection h3 with e0 _ _
    cases e0

theorem LogAt.src {base : Nat} {w : World} {D : Nat → Prop} {v : Value} {L : List Sp.Did} {xs : List Value} (h : LogAt base w D v L xs) : Src w v L := by
  obtain ⟨hlen, hown⟩ := h.own
  rcases hown with ⟨rfl, h0⟩ | ⟨g, cap, cur, rfl, hb, hg, h1, h2, h3, h4⟩
  · have hL : L = [] := List.length_eq_zero_iff.1 h0
    subst hL
    exact ⟨none, 0, rfl, fun _ => ⟨rfl, rfl⟩, Nat.le_refl _, Nat.zero_le _, fun h => by simp at h⟩
  · refine ⟨_, cap, rfl, (fun h => by cases h), h1, h2, fun _ => ⟨g, 0, rfl, (Array.getElem?_eq_some_iff.1 hg).1, fun k x hx => ?_⟩⟩
    obtain ⟨ad, c, t1, t2, t3⟩ := h.at' k x hx
    refine ⟨ad, c, t1.texts, own_nil t1, fun i y hy => ?_⟩
    have h5 := t3 i y hy
    have h6 := (List.getElem?_eq_some_iff.1 h5).1
    rw [hlen] at h6
    rw [Nat.zero_add, h.own.cellAt _ h6]
    exact h5

/-- One answer's code, in memory. -/
theorem LogAt.code {base : Nat} {w : World} {D : Nat → Prop} {v : Value} {L : List Sp.Did} {xs : List Value} (h : LogAt base w D v L xs) {k : Nat} {x : Sp.Did} (hx : L[k]? = some x) :
    ∃ g cap, v = .slice (some ⟨g, 0, none⟩) L.length cap ∧ g < w.heap.size ∧ w.cell? ⟨g, k * 16 + 10, none⟩ = some (.int .i64 x.a.code) := by
  obtain ⟨hlen, hown⟩ := id h.own
  have hk := (List.getElem?_eq_some_iff.1 hx).1
  rcases hown with ⟨rfl, h0⟩ | ⟨g, cap, cur, rfl, hb, hg, h1, h2, h3, h4⟩
  · omega
  · obtain ⟨ad, c, t1, t2, t3⟩ := h.at' k x hx
    have h5 := t3 10 (.int .i64 x.a.code) rfl
    have h6 := (List.getElem?_eq_some_iff.1 h5).1
    rw [hlen] at h6
    refine ⟨g, cap, rfl, (Array.getElem?_eq_some_iff.1 hg).1, ?_⟩
    rw [h.own.cellAt _ h6]
    exact h5

/-- Behind made(the operations, and one more): its paths. -/
def FullPaths (w : World) (s : Value) (wx : World) : Prop := ∃ ad m cap, s = .slice ad (m + 1) cap ∧ Below w.heap.size w wx
/-- Behind made(the operations, and one more): its log. -/
def FullLog (w : World) (n : Nat) (c : Int) (s : Value) (wx : World) : Prop := ∃ g cap, s = .slice (some ⟨g, 0, none⟩) (n + 1) cap ∧ g < wx.heap.size ∧ wx.cell? ⟨g, n * 16 + 10, none⟩ = some (.int .i64 c) ∧ Below w.heap.size w wx

theorem FullPaths.low {w : World} {s : Value} {wx : World} (h : FullPaths w s wx) : Below w.heap.size w wx := let ⟨_, _, _, _, h⟩ := h; h
theorem FullLog.low {w : World} {n : Nat} {c : Int} {s : Value} {wx : World} (h : FullLog w n c s wx) : Below w.heap.size w wx := let ⟨_, _, _, _, _, h⟩ := h; h
/-- Behind Judge. -/
def FullJudge (w : World) (a b : Int) (s1 s2 s3 : Value) (wx : World) : Prop := s1 = .int .i64 a ∧ s2 = .int .i64 b ∧ s3 = .int .i64 0 ∧ Below w.heap.size w wx
/-- Behind Paths. -/
def FullTold (w : World) (l : List ByteArray) (s1 s2 : Value) (wx : World) : Prop := s2 = .int .i64 0 ∧ OwnTexts w.heap.size wx s1 l ∧ Below w.heap.size w wx
theorem made_paths {w w1 : World} {l : List Sp.Op} {e : Ending} {w' : World} (hb : Below w.heap.size w w1) (h : MadePost l w1 e w') : ∃ v s, e = .returned (.tuple #[v, s]) ∧ FullPaths w s w' := by
  obtain ⟨v, xs, s, rfl, _, h2, h3⟩ := h
  obtain ⟨ad, cap, rfl⟩ := own_form h2
  refine ⟨v, _, rfl, ad, (Sp.new.steps (l.take 40)).names.length, cap, ?_, below_next hb h3⟩
  rw [paths_length]
theorem logFrom_last (l : List Sp.Op) (o : Sp.Op) : ∃ x, (logFrom 0 Sp.new (l ++ [o]))[l.length]? = some x ∧ x.a.code = ((Sp.new.steps l).step o).2.code := by
  rw [logFrom_snoc, List.getElem?_append_right (Nat.le_of_eq (logFrom_length _ _ _)), logFrom_length, Nat.sub_self]
  exact ⟨_, rfl, rfl⟩
theorem made_log {w w1 : World} {l : List Sp.Op} {o : Sp.Op} {n : Nat} {e : Ending} {w' : World} (hb : Below w.heap.size w w1) (hn : l.length = n) (hl : n < 40) (h : MadePost (l ++ [o]) w1 e w') : ∃ v s, e = .returned (.tuple #[v, s]) ∧ FullLog w n ((Sp.new.steps l).step o).2.code v w' := by
  subst hn
  obtain ⟨v, xs, s, rfl, h1, h2, h3⟩ := h
  rw [List.take_of_length_le (by rw [List.length_append, List.length_singleton]; omega)] at h1
  obtain ⟨x, hx, hc⟩ := logFrom_last l o
  obtain ⟨g, cap, hv, hg, hcell⟩ := h1.code hx
  rw [logFrom_length, List.length_append, List.length_singleton] at hv
  rw [hc] at hcell
  exact ⟨v, s, rfl, g, cap, hv, hg, hcell, below_next hb h3⟩

/-- The operations, copied, and one more. -/
theorem ops_more {base : Nat} {w : World} {v : Value} {l : List Sp.Op} {o : Sp.Op} {n : Nat} (hn : l.length = n) (h : w.ownsRow base 32 6 v (n + 1) (opsVals l ++ (opA o).toList)) : Ops w v (l ++ [o]) := by
  subst hn
  refine ops_own (base := base) (e := 32) ?_
  rw [opsVals_snoc, List.length_append, List.length_singleton]
  exact h
theorem more_ok {l : List Sp.Op} {o : Sp.Op} (h : ∀ p ∈ l, OpOk p) (ho : OpOk o) : ∀ p ∈ l ++ [o], OpOk p := by
  intro p hp
  rcases List.mem_append.1 hp with hp | hp
  · exact h p hp
  · rw [List.mem_singleton.1 hp]; exact ho

/-- The copied log, and the answer that there was no room. -/
theorem log_more {base : Nat} {w w' : World} {L : List Sp.Did} {xs : List Value} {n : Nat} {o : Sp.Op} {g g' c c' : Nat} (hn : L.length = n) (h : LogAt base w (fun _ => False) (.slice (some ⟨g, 0, none⟩) n c) L xs)
    (hown : w'.ownsRow base 56 16 (.slice (some ⟨g', 0, none⟩) (n + 1) c') (n + 1) (xs ++ (didA (Sp.fullD n o) (.slice none 0 0)).toList)) (hg : w.grownBy w' (some g)) (hloc : g' = g ∨ g' = w.heap.size) :
    Dids w' (.slice (some ⟨g', 0, none⟩) (n + 1) c') (L ++ [Sp.fullD n o]) := by
  subst hn
  exact (h.snoc (x := Sp.fullD L.length o) (ad := none) (cap := 0) (OwnTexts.void _ _) (fun _ he => by cases he) hown hg (hloc.imp_left (fun e => by rw [e]; rfl)) (fun _ hf => hf.elim)).dids
theorem more_ok2 {L : List Sp.Did} {n : Nat} {o : Sp.Op} (h : ∀ x ∈ L, OpOk x.o) (ho : OpOk o) : ∀ x ∈ L ++ [Sp.fullD n o], OpOk x.o := by
  intro p hp
  rcases List.mem_append.1 hp with hp | hp
  · exact h p hp
  · rw [List.mem_singleton.1 hp]; exact ho
theorem full_paths {l : List Sp.Op} (hl : l.length < 40) (o : Sp.Op) : pathsN (logFrom 0 Sp.new l ++ [Sp.fullD l.length o]) = (if ((Sp.new.steps l).step o).2.code = 0 then (Sp.new.steps l).paths else ((Sp.new.steps l).step o).1.paths, 0) := by
  unfold pathsN
  rw [full_check hl o, if_pos rfl, plays_more, full_play]
  split <;> rfl
theorem step_names (t : Sp.Tree) (o : Sp.Op) : (t.step o).2.names.length ≤ t.names.length := by
  unfold Tree.step
  repeat' (first | (split; exact Nat.zero_le _) | (split; rotate_left) | exact Nat.zero_le _)
  unfold Tree.tell
  repeat' (first | exact Nat.zero_le _ | split)
  show (t.kids (full o.path)).length ≤ _
  rw [kids_length]
  exact kids_few t _
theorem logFrom_names : ∀ (l : List Sp.Op) (i : Nat) (t : Sp.Tree) (m : Nat), t.names.length + l.length ≤ m → ∀ x ∈ logFrom i t l, x.a.names.length ≤ m
  | [], _, _, _, _, x, hx => by simp [logFrom] at hx
  | o :: r, i, t, m, h, x, hx => by
    rw [List.length_cons] at h
    unfold logFrom at hx
    rcases List.mem_cons.1 hx with rfl | hx
    · have := step_names t o
      show (t.step o).2.names.length ≤ m
      omega
    · exact logFrom_names r _ _ m (by have := step_length t o; omega) x hx
theorem names_few {l : List Sp.Op} (hl : l.length ≤ 40) : ∀ x ∈ logFrom 0 Sp.new l, x.a.names.length ≤ 2000000 :=
  logFrom_names l 0 Sp.new 2000000 (by show (Sp.new.names.length) + _ ≤ _; show 0 + _ ≤ _; omega)
end Go.Proofs.YtcgpmnlondnbhaaDoor
