/-
  Ranging over a directory's map.
-/
import Derived.Test.YtcgpmnlondnbhaaDoorTreeC
import Derived.Test.YtcgpmnlondnbhaaDoorTreeA
import Derived.Maps.RangeWalk
import Derived.Sort.KeysCollected
namespace Go.Proofs.YtcgpmnlondnbhaaDoor
open Go Go.RowKit Go.Maps Go.WideMaps Go.WideShapes Go.WideElems

def ptrR : Value → Option (DataW Unit × List MemPlace)
  | .pointer (some ⟨b, 0, none⟩) => some (.lit (.int .i64 (b : Int)), [])
  | _ => none
theorem ptrR_inv (v : Value) (y : DataW Unit × List MemPlace) (h : ptrR v = some y) : ∃ c, v = ptr c := by
  unfold ptrR at h
  split at h
  · exact ⟨_, rfl⟩
  · cases h
theorem ptrR_mk (c : Nat) : ptrR (ptr c) = some (.lit (.int .i64 (c : Int)), []) := rfl
def entD (x : ByteArray × Nat) : Lit × DataW Unit := (.string x.1.data.toList, .lit (.int .i64 (x.2 : Int)))
def dirD (l : List (ByteArray × Nat)) : DataW Unit := .map ((l.map entD).foldr DataW.insert [])

theorem ents_ptr {P : Program} {k : TypeId} (hks : P.underlying k = some .string) {es : List MapEntry} {l : List (ByteArray × Nat)} (h : es.map (fun e => (e.key, e.val)) = l.map encE) (hs : ∀ x ∈ l, x.1.size ≤ maxLen) :
    (∀ x ∈ es, ∃ y, WideElems.rd P k ptrR x = some y) ∧ es.map (WideElems.rg P k ptrR) = l.map entD := by
  induction es generalizing l with
  | nil =>
    cases l with
    | nil => exact ⟨fun x hx => absurd hx (by simp), rfl⟩
    | cons y r => simp at h
  | cons e es ih =>
    cases l with
    | nil => simp at h
    | cons y r =>
      rw [List.map_cons, List.map_cons] at h
      injection h with h1 h2
      obtain ⟨g1, g2⟩ := ih h2 (fun x hx => hs x (List.mem_cons_of_mem _ hx))
      have hkey : e.key = .string y.1 := congrArg (·.1) h1
      have hval : e.val = ptr y.2 := congrArg (·.2) h1
      have hrd : WideElems.rd P k ptrR e = some (entD y) := by
        unfold WideElems.rd
        rw [hkey, hval, keyOf_string_mk hks (hs y (by simp))]
        rfl
      refine ⟨?_, ?_⟩
      · intro x hx
        rcases List.mem_cons.1 hx with rfl | hx
        · exact ⟨_, hrd⟩
        · exact g1 x hx
      · rw [List.map_cons, List.map_cons, WideElems.rg_of hrd, g2]

section
variable {P : Program} {k : TypeId} {w : World} {m : Nat} {l : List (ByteArray × Nat)}
theorem owns_ptr (hks : P.underlying k = some .string) (hm : MapAt w m l) (hs : ∀ x ∈ l, x.1.size ≤ maxLen) (hl : l.length ≤ 1000000) : w.ownsMap P k ptrR m l.length (dirD l) := by
  obtain ⟨o, ho, es, clock, rfl, hst, hen⟩ := hm
  have hsz := ents_len hen
  obtain ⟨h1, h2⟩ := ents_ptr hks hen hs
  exact ⟨es, clock, ho, ⟨by rw [hsz]; exact Nat.le_trans hl (by decide), hst, h1⟩, Nat.le_of_eq hsz, by unfold dirD; rw [← h2]⟩
theorem dir_rising (hks : P.underlying k = some .string) (hm : MapAt w m l) (hs : ∀ x ∈ l, x.1.size ≤ maxLen) (hl : l.length ≤ 1000000) : DataW.rising ((l.map entD).foldr DataW.insert []) = true := by
  obtain ⟨es, clock, ho, F, _, hD⟩ := owns_ptr hks hm hs hl
  have := Maps.fit_rising (string_keyed hks) F
  unfold dirD at hD
  injection hD with hD
  rw [hD]
  exact this
theorem dirD_at (hris : DataW.rising ((l.map entD).foldr DataW.insert []) = true) (hn : (l.map (·.1)).Nodup) {s : ByteArray} {c : Nat} (hk : WideAt.IsKeyLit (.string s.data.toList)) (h : ∀ zd, (dirD l).atKey (.string s.data.toList) zd = .lit (.int .i64 (c : Int))) :
    getM l s = some c := by
  obtain ⟨h1, h2⟩ := atKey_sorted (l.map entD) hris (.string s.data.toList) hk
  by_cases he : ∃ x ∈ l, x.1 = s
  · obtain ⟨x, hx, rfl⟩ := he
    have h3 := h2 (entD x) (List.mem_map.2 ⟨x, hx, rfl⟩) rfl .nil
    have h4 := (h .nil).symm.trans h3
    have hc : (c : Int) = (x.2 : Int) := by
      unfold entD at h4
      injection h4 with h4
      injection h4
    obtain ⟨j, hj⟩ := List.getElem?_of_mem hx
    rw [getM_at hn hj]
    congr 1
    omega
  · have h3 := h1 (fun p hp e => by
      obtain ⟨x, hx, rfl⟩ := List.mem_map.1 hp
      exact he ⟨x, hx, Txt.ext (by unfold entD at e; injection e)⟩) .nil
    have h4 := (h .nil).symm.trans h3
    cases h4
theorem dirD_has (s : ByteArray) : Maps.has (dirD l) (.string s.data.toList) = true ↔ (getM l s).isSome := by
  rw [getM_mem]
  unfold dirD Maps.has
  rw [List.any_eq_true]
  constructor
  · rintro ⟨p, hp, hk⟩
    obtain ⟨x, hx, rfl⟩ := List.mem_map.1 (mem_sorted.1 hp)
    have := WideAt.sameKey_eq hk
    refine List.mem_map.2 ⟨x, hx, Txt.ext ?_⟩
    unfold entD at this
    injection this
  · intro hs
    obtain ⟨x, hx, rfl⟩ := List.mem_map.1 hs
    exact ⟨entD x, mem_sorted.2 (List.mem_map.2 ⟨x, hx, rfl⟩), by unfold entD; simp [Lit.sameKey]⟩
end

/-- A range over a directory's map under way: which names are still to come. -/
def Ranging (w : World) (b r : Nat) (l : List (ByteArray × Nat)) (left : ByteArray → Prop) (cnt : Nat) : Prop :=
  ∃ lf : Lit → Bool, w.ranges Tryd.prog 9 ptrR b r l.length (dirD l) lf cnt ∧ ∀ s : ByteArray, lf (.string s.data.toList) = true ↔ left s
theorem Ranging.kept {w w' : World} {b r : Nat} {l : List (ByteArray × Nat)} {left : ByteArray → Prop} {cnt : Nat} {row : Option Nat} (h : Ranging w b r l left cnt) (hg : w.grownBy w' row) (hb : some b ≠ row) (hr : some r ≠ row) : Ranging w' b r l left cnt :=
  let ⟨lf, h1, h2⟩ := h
  ⟨lf, h1.kept hg hb hr, h2⟩
theorem Ranging.lt {w : World} {b r : Nat} {l : List (ByteArray × Nat)} {left : ByteArray → Prop} {cnt : Nat} (h : Ranging w b r l left cnt) : r < w.heap.size := let ⟨_, h1, _⟩ := h; h1.lt
theorem Ranging.left_eq {w : World} {b r : Nat} {l : List (ByteArray × Nat)} {left : ByteArray → Prop} {cnt : Nat} (h : Ranging w b r l left cnt) : w.rangeLeft b r = cnt := let ⟨_, h1, _⟩ := h; h1.left_eq

theorem law_dir : Keyed Tryd.prog 9 := string_keyed Tryd.underlying9

section
variable {w : World} {ops : Array Oper} {rest : List Oper} {o : Oper} {a : Act} {Q : Exit → Act → World → Prop}
theorem wpList_range_dir (hg : o.guard = none) (m : Operand) (hop : o.op = Op.range 64 m) {b : Nat} {l : List (ByteArray × Nat)} (hm : a.eval m = .map (some b)) (hl : MapAt w b l) (hs : ∀ x ∈ l, x.1.size ≤ maxLen) (hlen : l.length ≤ 1000000)
    (hK : ∀ w' cnt, Ranging w' b w.heap.size l (fun s => (getM l s).isSome) cnt → w.grownBy w' none → w'.heap.size = w.heap.size + 1 → wpList Tryd.prog ops Q rest (a.put o.dst (.pointer (some ⟨w.heap.size, 0, none⟩))) w') :
    wpList Tryd.prog ops Q (o :: rest) a w :=
  wpList_range_own w hg m _ hop 9 63 law_dir ht_map ptrR b l.length (dirD l) hm (owns_ptr Tryd.underlying9 hl hs hlen) (fun w' h1 h2 h3 => hK w' _ ⟨_, h1, fun s => dirD_has s⟩ h2 h3)

theorem wpList_next_dir (hg : o.guard = none) (it : Operand) (hop : o.op = Op.next it false) {b r : Nat} {l : List (ByteArray × Nat)} {left : ByteArray → Prop} {cnt : Nat} (hit : a.eval it = .pointer (some ⟨r, 0, none⟩)) (hl : MapAt w b l) (hs : ∀ x ∈ l, x.1.size ≤ maxLen) (hlen : l.length ≤ 1000000)
    (h : Ranging w b r l left cnt) (hDone : (∀ s, ¬ left s) → wpList Tryd.prog ops Q rest (a.put o.dst (.tuple #[.bool false])) w)
    (hMore : ∀ (s : ByteArray) (c : Nat) (w' : World) (cnt' : Nat), left s → getM l s = some c → Ranging w' b r l (fun z => left z ∧ z ≠ s) cnt' → cnt' < cnt → w.grownBy w' (some r) → w'.heap.size = w.heap.size →
      (Instr.entry (.pointer (some ⟨r, 0, none⟩))).run Tryd.prog w' = .ok (.tuple #[.string s, ptr c]) w' → wpList Tryd.prog ops Q rest (a.put o.dst (.tuple #[.bool true, .string s, ptr c])) w') :
    wpList Tryd.prog ops Q (o :: rest) a w := by
  obtain ⟨lf, hrg, hlf⟩ := h
  have hn := hl.nodup
  have hris := dir_rising Tryd.underlying9 hl hs hlen
  refine wpList_next_ranges w hg it hop 9 law_dir ptrR Value.string ptr (fun key kl hk => ?_) ptrR_inv b r l.length (dirD l) lf cnt hit hrg (fun _ h0 => hDone (fun s hs => by have := (hlf s).2 hs; rw [h0] at this; cases this)) ?_
  · obtain ⟨x, rfl, _⟩ := Maps.keyOf_str Tryd.underlying9 hk
    exact ⟨_, rfl⟩
  · intro s c kl y w' cnt' hkey hlk hR hat hrg' hlt hgr hsz hen
    obtain ⟨x, hx, rfl, hxl⟩ := Maps.keyOf_str Tryd.underlying9 hkey
    have hxs : x = s.data.toList := by
      have h2 : s = (⟨x.toArray⟩ : ByteArray) := Value.string.inj hx
      simp [h2]
    subst hxs
    rw [ptrR_mk] at hR
    cases hR
    have hkl : WideAt.IsKeyLit (.string s.data.toList) := law_dir.key hkey
    refine hMore s c w' cnt' ((hlf s).1 hlk) (dirD_at hris hn hkl hat) ⟨_, hrg', fun z => ?_⟩ hlt hgr hsz hen
    rw [Bool.and_eq_true, hlf, Bool.not_eq_true', ← Bool.not_eq_true]
    refine and_congr_right (fun _ => not_congr ?_)
    constructor
    · intro e
      have := WideAt.sameKey_eq e
      exact Txt.ext (by injection this)
    · rintro rfl
      exact WideAt.sameKey_self hkl
end
end Go.Proofs.YtcgpmnlondnbhaaDoor
