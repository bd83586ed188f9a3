/-
  TreeA: TreeRep, RepOps, RepMove, RepKids, TreeWalk, TreePut, TreeMake, TreeLink.
-/
import Derived.Test.YtcgpmnlondnbhaaGreatDoorNamesA
import Derived.Test.YtcgpmnlondnbhaaGreatDoorPlainA
import Derived.StillTailTactics
import Derived.RegionTactic
namespace Go.Proofs.YtcgpmnlondnbhaaGreatDoor
open Go Go.RowKit Txt Sp

/-- A thing's block: its bytes, its links, its map. -/
def thingO (d : ByteArray) (n : Nat) (m : Option Nat) : Obj := .cells #[.string d, .int .i64 n, .map m] 57 (0, 0)
def treeO (b : Nat) : Obj := .cells #[ptr b] 59 (0, 0)

def Sp.Tree.has (t : Sp.Tree) (i : Nat) : Prop := ∃ b d, (i, b, d) ∈ t.things

/-- The tree t lies in memory: the block B holds it; φ: where its things lie, μ: where directories' maps lie. -/
structure Rep (w : World) (B : Nat) (t : Sp.Tree) (φ μ : Nat → Nat) : Prop where
  root : w.heap[B]? = some (treeO (φ 0))
  file : ∀ i d, (i, false, d) ∈ t.things → w.heap[φ i]? = some (thingO d (t.links i) none)
  dir : ∀ i p, t.idOf p = some i → t.isDir i = true → w.heap[φ i]? = some (thingO (ofL []) (t.links i) (some (μ i))) ∧ ∃ l, MapAt w (μ i) l ∧ ∀ s, getM l s = (t.find (p ++ [s])).map φ
  inj : ∀ i j, t.has i → t.has j → φ i = φ j → i = j
  injm : ∀ i j, t.has i → t.has j → t.isDir i = true → t.isDir j = true → μ i = μ j → i = j

/-- What of a world a tree takes up. -/
def Rep.dom (B : Nat) (t : Sp.Tree) (φ μ : Nat → Nat) (k : Nat) : Prop := k = B ∨ ∃ i, t.has i ∧ (k = φ i ∨ (t.isDir i = true ∧ k = μ i))

theorem cell_of_heap {w : World} {b k : Nat} {cs : Array Value} {e : TypeId} {fr : Nat × Nat} {v : Value} (h : w.heap[b]? = some (.cells cs e fr)) (hv : cs[k]? = some v) : w.cell? ⟨b, k, none⟩ = some v := by
  simp [World.cell?, h, hv]
theorem free_of_heap {w : World} {b k : Nat} {cs : Array Value} {e : TypeId} (h : w.heap[b]? = some (.cells cs e (0, 0))) : w.frozen? ⟨b, k, none⟩ = false := by
  simp [World.frozen?, h]

theorem Rep.rootCell {w : World} {B : Nat} {t : Sp.Tree} {φ μ : Nat → Nat} (h : Rep w B t φ μ) : w.cell? ⟨B, 0, none⟩ = some (ptr (φ 0)) := cell_of_heap h.root rfl
theorem Rep.dirCell {w : World} {B : Nat} {t : Sp.Tree} {φ μ : Nat → Nat} (h : Rep w B t φ μ) {i : Nat} {p : List ByteArray} (hp : t.idOf p = some i) (hd : t.isDir i = true) : w.cell? ⟨φ i, 2, none⟩ = some (.map (some (μ i))) := cell_of_heap (h.dir i p hp hd).1 rfl
theorem Rep.fileCell {w : World} {B : Nat} {t : Sp.Tree} {φ μ : Nat → Nat} (h : Rep w B t φ μ) (hok : t.Ok) {i : Nat} {p : List ByteArray} (hp : t.idOf p = some i) (hd : t.isDir i = false) : w.cell? ⟨φ i, 2, none⟩ = some (.map none) := by
  have := there_idOf hok hp
  rw [hd] at this
  exact cell_of_heap (h.file i _ this) rfl

theorem zero_ptr (w : World) : (zeroValue 54).run Tryz.prog w = .ok (.pointer none) w := by kernel_rfl
theorem ht_map : Tryz.prog.underlying 55 = some (.map 9 54) := Tryz.underlying55

/-- A name in a directory. -/
theorem Rep.look {w : World} {B : Nat} {t : Sp.Tree} {φ μ : Nat → Nat} (h : Rep w B t φ μ) {i : Nat} {p : List ByteArray} (hp : t.idOf p = some i) (hd : t.isDir i = true) (s : ByteArray) (n : Nat) :
    (Instr.lookup 55 (.map (some (μ i))) (.string s) false).run Tryz.prog (w.drewN n) = .ok (ptrO ((t.find (p ++ [s])).map φ)) (w.drewN n) := by
  obtain ⟨_, l, hm, hl⟩ := h.dir i p hp hd
  have h1 := run_lookup_ptr (P := Tryz.prog) (w := w.drewN n) (T := 55) (K := 9) (E := 54) (m := μ i) (l := l) ht_map Tryz.underlying9 (zero_ptr _) (show MapAt (w.drewN n) (μ i) l from hm) s
  rw [hl s] at h1
  exact h1

/-- What walk hands back: what names stand for, or nothing. -/
def thingV (φ : Nat → Nat) (r : Nat × Int) : Value := if r.2 = 0 then ptr (φ r.1) else .pointer none
theorem thingV_ok {φ : Nat → Nat} {r : Nat × Int} {i : Nat} (h : r = (i, 0)) : thingV φ r = ptr (φ i) := by subst h; rfl
theorem thingV_err {φ : Nat → Nat} {r : Nat × Int} {i : Nat} {c : Int} (h : r = (i, c)) (hc : c ≠ 0) : thingV φ r = .pointer none := by subst h; exact if_neg hc
def WalkPost (φ : Nat → Nat) (r : Nat × Int) (w : World) (e : Ending) (w' : World) : Prop :=
  e = .returned (.tuple #[thingV φ r, .int .i64 r.2]) ∧ w = w'

set_option maxHeartbeats 1000000 in
theorem twalk_any {w : World} {B : Nat} {t : Sp.Tree} {φ μ : Nat → Nat} (hR : Rep w B t φ μ) (hok : t.Ok) (v : Value) (l : List ByteArray) (ht : Texts w v l) (h8 : l.length ≤ 8) :
    Calls Tryz.prog 74 #[ptr B, v] w (WalkPost φ (t.walk [] l 0) w) := by
  obtain ⟨ad, n, cap, rfl, HN, hn8, HX⟩ := ht.open8 h8
  have HR := Lib.hid hR
  have HOK := Lib.hid hok
  have c0 := hR.rootCell
  have hz := zero_ptr
  have m1 := fun (r : Option Nat) (w : World) => run_eql_map_nil (P := Tryz.prog) w 55 _ _ r ht_map
  clear hR hok ht
  unfold ptr at c0 ⊢
  go_enter Tryz.func74, Tryz.ntmps74
  go_wp2
  go_loop [6, 15] (fun x i => ∃ k j : Nat, k ≤ n ∧ i = .int .i64 k ∧ x = .pointer (some ⟨φ j, 0, none⟩) ∧ t.walk (l.take k) (l.drop k) j = t.walk [] l 0 ∧ t.idOf (l.take k) = some j) (fun _ i => n - (intOf i).toNat)
  case atStart => exact ⟨0, 0, Nat.zero_le _, rfl, rfl, rfl, idOf_nil⟩
  case round =>
    obtain ⟨k, j, hk, rfl, rfl, hw, hid⟩ := hrel
    have HW := Lib.hid hw
    have HI := Lib.hid hid
    clear hw hid
    by_cases hlt : k < n
    · obtain ⟨b1, off, s, rfl, hb1, hx, hcx⟩ := HX.out k hlt
      have X := Lib.hid hx
      have HD : Hid (l.drop k = s :: l.drop (k + 1)) := by
        obtain ⟨h1, h2⟩ := List.getElem?_eq_some_iff.1 hx
        show l.drop k = s :: l.drop (k + 1)
        rw [List.drop_eq_getElem_cons h1, h2]
      have HT : Hid (l.take (k + 1) = l.take k ++ [s]) := take_snoc l k s hx
      clear hx HX
      cases hd : t.isDir j with
      | true =>
        have c2 := HR.out.dirCell HI.out hd
        have hl := HR.out.look HI.out hd s 0
        have HDir := Lib.hid hd
        rw [World.drewN_zero] at hl
        cases hf : t.find (l.take k ++ [s]) with
        | none =>
          rw [hf] at hl
          have HF : Hid (t.walk [] l 0 = (0, 100)) := by
            show t.walk [] l 0 = (0, 100)
            rw [← HW.out, HD.out]; unfold Tree.walk; rw [if_pos HDir.out, hf]
          clear hd hf
          simp only [Option.map_none, ptrO] at hl
          go_wp2
          go_ret2
          exact ⟨by rw [HF.out]; rfl, rfl⟩
        | some j' =>
          rw [hf] at hl
          have HF : Hid (t.walk (l.take (k + 1)) (l.drop (k + 1)) j' = t.walk [] l 0) := by
            show t.walk (l.take (k + 1)) (l.drop (k + 1)) j' = t.walk [] l 0
            rw [← HW.out, HD.out, HT.out]
            conv => rhs; unfold Tree.walk
            rw [if_pos HDir.out, hf]
          have HI2 : Hid (t.idOf (l.take (k + 1)) = some j') := by
            show t.idOf (l.take (k + 1)) = some j'
            rw [HT.out, idOf_snoc]; exact hf
          clear hd hf
          simp only [Option.map_some, ptrO, ptr] at hl
          go_wp2
          go_round
          case rel => exact ⟨k + 1, j', by omega, by go_num, rfl, HF.out, HI2.out⟩
          case measure => simp [intOf]; omega
      | false =>
        have c2 := HR.out.fileCell HOK.out HI.out hd
        have HF : Hid (t.walk [] l 0 = (0, 103)) := by
          show t.walk [] l 0 = (0, 103)
          rw [← HW.out, HD.out]; unfold Tree.walk; rw [if_neg (by rw [hd]; simp)]
        clear hd
        go_wp2
        go_ret2
        exact ⟨by rw [HF.out]; rfl, rfl⟩
    · have HF : Hid (t.walk [] l 0 = (j, 0)) := by
        show t.walk [] l 0 = (j, 0)
        rw [← HW.out, List.drop_of_length_le (by have := HN.out; omega)]; rfl
      go_wp2
      go_ret2
      exact ⟨by rw [HF.out]; rfl, rfl⟩
end Go.Proofs.YtcgpmnlondnbhaaGreatDoor

namespace Go.Proofs.YtcgpmnlondnbhaaGreatDoor
open Go Go.RowKit Txt Sp

theorem getM_set (l : List (ByteArray × Nat)) (s : ByteArray) (b : Nat) (r : ByteArray) : getM (setM l s b) r = if r = s then some b else getM l r := by
  unfold setM
  cases hs : getM l s with
  | none =>
    simp only [Option.isSome_none, Bool.false_eq_true, if_false]
    unfold getM at hs ⊢
    rw [List.find?_append]
    by_cases h : r = s
    · subst h
      rw [if_pos rfl]
      cases hf : l.find? (fun x => decide (x.1 = r)) with
      | none => simp
      | some y => rw [hf] at hs; cases hs
    · rw [if_neg h]
      cases hf : l.find? (fun x => decide (x.1 = r)) with
      | none => simp [Ne.symm h]
      | some y => simp
  | some c =>
    simp only [Option.isSome_some, if_true]
    obtain ⟨y, hy, rfl⟩ := Option.map_eq_some_iff.1 hs
    have hy1 : y.1 = s := of_decide_eq_true (List.find?_some (p := fun x : ByteArray × Nat => decide (x.1 = s)) hy)
    have hym := List.mem_of_find?_eq_some hy
    unfold getM
    rw [List.find?_map]
    by_cases h : r = s
    · subst h
      rw [if_pos rfl]
      have e : ((fun x : ByteArray × Nat => decide (x.1 = r)) ∘ fun x => if x.1 = r then (r, b) else x) = fun x => decide (x.1 = r) := by
        funext x
        simp only [Function.comp_apply]
        by_cases hx : x.1 = r <;> simp [hx]
      rw [e, hy]
      simp [hy1]
    · rw [if_neg h]
      have e : ((fun x : ByteArray × Nat => decide (x.1 = r)) ∘ fun x => if x.1 = s then (s, b) else x) = fun x => decide (x.1 = r) := by
        funext x
        simp only [Function.comp_apply]
        by_cases hx : x.1 = s
        · simp [hx]
        · simp [hx]
      rw [e]
      cases hf : l.find? (fun x => decide (x.1 = r)) with
      | none => rfl
      | some z =>
        have hz1 : z.1 = r := of_decide_eq_true (List.find?_some (p := fun x : ByteArray × Nat => decide (x.1 = r)) hf)
        have : z.1 ≠ s := by rw [hz1]; exact h
        simp [this]
theorem getM_del (l : List (ByteArray × Nat)) (s r : ByteArray) : getM (delM l s) r = if r = s then none else getM l r := by
  unfold getM delM
  rw [List.find?_filter]
  by_cases h : r = s
  · subst h
    rw [if_pos rfl]
    simp
  · rw [if_neg h]
    have : (fun a : ByteArray × Nat => decide (decide (a.1 ≠ s) = true ∧ decide (a.1 = r) = true)) = fun a => decide (a.1 = r) := by
      funext a
      by_cases ha : a.1 = r
      · simp [ha, h]
      · simp [ha]
    rw [this]

section
variable {w w' : World} {B : Nat} {t : Sp.Tree} {φ μ : Nat → Nat}

theorem has_idOf (hok : t.Ok) {p : List ByteArray} {i : Nat} (hp : t.idOf p = some i) : t.has i := ⟨_, _, there_idOf hok hp⟩
theorem idOf_has (hok : t.Ok) {i : Nat} (h : t.has i) : ∃ p, t.idOf p = some i := by
  obtain ⟨b, d, hd⟩ := h
  rcases hok.named _ _ _ hd with rfl | ⟨p, hp⟩
  · exact ⟨[], idOf_nil⟩
  · exact ⟨p, find_idOf hok ((find_mem hok).2 hp)⟩
/-- A directory has one path. -/
theorem dir_path (hok : t.Ok) {p q : List ByteArray} {i : Nat} (hp : t.idOf p = some i) (hq : t.idOf q = some i) (hd : t.isDir i = true) : p = q := by
  have hth := there_idOf hok hp
  rw [hd] at hth
  rcases idOf_mem hok hp with ⟨rfl, rfl⟩ | hp
  · rcases idOf_mem hok hq with ⟨rfl, _⟩ | hq
    · rfl
    · exact absurd rfl (hok.there _ _ hq).1
  · rcases idOf_mem hok hq with ⟨rfl, rfl⟩ | hq
    · exact absurd rfl (hok.there _ _ hp).1
    · exact hok.one _ _ _ _ hth hp hq

theorem Rep.thing (hR : Rep w B t φ μ) (hok : t.Ok) {i : Nat} (h : t.has i) : ∃ d m, w.heap[φ i]? = some (thingO d (t.links i) m) := by
  obtain ⟨p, hp⟩ := idOf_has hok h
  cases hd : t.isDir i with
  | true => exact ⟨_, _, (hR.dir i p hp hd).1⟩
  | false =>
    have := there_idOf hok hp
    rw [hd] at this
    exact ⟨_, _, hR.file i _ this⟩
theorem Rep.map (hR : Rep w B t φ μ) (hok : t.Ok) {i : Nat} (h : t.has i) (hd : t.isDir i = true) : ∃ es c, w.heap[μ i]? = some (.map es c) := by
  obtain ⟨p, hp⟩ := idOf_has hok h
  obtain ⟨_, l, ⟨o, ho, es, c, rfl, _⟩, _⟩ := hR.dir i p hp hd
  exact ⟨es, c, ho⟩
theorem Rep.root_ne_map (hR : Rep w B t φ μ) (hok : t.Ok) {i : Nat} (h : t.has i) (hd : t.isDir i = true) : B ≠ μ i := by
  obtain ⟨es, c, hm⟩ := hR.map hok h hd
  intro e
  have := hR.root
  rw [e, hm] at this
  cases this
theorem Rep.thing_ne_map (hR : Rep w B t φ μ) (hok : t.Ok) {i j : Nat} (hj : t.has j) (h : t.has i) (hd : t.isDir i = true) : φ j ≠ μ i := by
  obtain ⟨es, c, hm⟩ := hR.map hok h hd
  obtain ⟨d, m, ht⟩ := hR.thing hok hj
  intro e
  rw [e, hm] at ht
  cases ht
theorem Rep.root_ne_thing (hR : Rep w B t φ μ) (hok : t.Ok) {j : Nat} (hj : t.has j) : B ≠ φ j := by
  obtain ⟨d, m, ht⟩ := hR.thing hok hj
  intro e
  have := hR.root
  rw [e, ht] at this
  simp [thingO, treeO] at this

theorem MapAt.same {m : Nat} {l : List (ByteArray × Nat)} (h : MapAt w m l) (hs : ∀ o, w.heap[m]? = some o → w'.heap[m]? = some o) : MapAt w' m l :=
  let ⟨o, ho, hm⟩ := h
  ⟨o, hs o ho, hm⟩

/-- Nothing of the tree has turned. -/
theorem Rep.same (hR : Rep w B t φ μ) (hs : ∀ (k : Nat) (o : Obj), w.heap[k]? = some o → w'.heap[k]? = some o) : Rep w' B t φ μ where
  root := hs _ _ hR.root
  file i d h := hs _ _ (hR.file i d h)
  dir i p hp hd := let ⟨h1, l, h2, h3⟩ := hR.dir i p hp hd; ⟨hs _ _ h1, l, h2.same (hs _), h3⟩
  inj := hR.inj
  injm := hR.injm
theorem heap_below {w w' : World} (hb : Below w.heap.size w w') : ∀ (k : Nat) (o : Obj), w.heap[k]? = some o → w'.heap[k]? = some o := fun k o h => by
  rw [hb.block k (Array.getElem?_eq_some_iff.1 h).1]; exact h
theorem Rep.below (hR : Rep w B t φ μ) (hb : Below w.heap.size w w') : Rep w' B t φ μ := hR.same (heap_below hb)

def upd (f : Nat → Nat) (i b : Nat) : Nat → Nat := fun j => if j = i then b else f j
theorem upd_at (f : Nat → Nat) (i b : Nat) : upd f i b i = b := if_pos rfl
theorem upd_ne {f : Nat → Nat} {i b j : Nat} (h : j ≠ i) : upd f i b j = f j := if_neg h

theorem grown_links (q : List ByteArray) (dir : Bool) (j : Nat) : (t.grown q dir).links j = t.links j + if j = t.many + 1 then 1 else 0 := by
  unfold Sp.Tree.links Sp.Tree.grown
  simp only [List.countP_append, List.countP_cons, List.countP_nil]
  by_cases h : j = t.many + 1
  · simp [h]
  · simp [h, Ne.symm h]
theorem links_fresh (hok : t.Ok) : t.links (t.many + 1) = 0 := by
  unfold Sp.Tree.links
  rw [List.countP_eq_zero]
  intro x hx e
  have : x.2 = t.many + 1 := of_decide_eq_true e
  exact fresh_name hok (p := x.1) (by rw [← this]; exact hx)
theorem grown_find {q : List ByteArray} (hf : t.find q = none) {p : List ByteArray} {dir : Bool} : (t.grown q dir).find p = if p = q then some (t.many + 1) else t.find p := find_more hf
theorem grown_idOf {l : List ByteArray} {x : ByteArray} {dir : Bool} (hf : t.find (l ++ [x]) = none) {p : List ByteArray} : (t.grown (l ++ [x]) dir).idOf p = if p = l ++ [x] then some (t.many + 1) else t.idOf p := by
  unfold Sp.Tree.idOf
  by_cases h0 : p = []
  · subst h0
    rw [if_pos rfl, if_neg (by simp), if_pos rfl]
  · rw [if_neg h0, if_neg h0, grown_find hf]

/-- A file or a directory more. -/
theorem Rep.grown (hR : Rep w B t φ μ) (hok : t.Ok) {l : List ByteArray} {x : ByteArray} {i : Nat} {dir : Bool} (hl : t.idOf l = some i) (hd : t.isDir i = true) (hx : nameB x = true) (hf : t.find (l ++ [x]) = none)
    {b mb : Nat} {l0 : List (ByteArray × Nat)} {o' : Obj} (hl0 : MapAt w (μ i) l0) {m0 : Option Nat} (hbw : w.heap[b]? = some (thingO (ofL []) 0 m0)) (hbφ : ∀ j, t.has j → φ j ≠ b) (hbμ : ∀ j, t.has j → t.isDir j = true → μ j ≠ mb)
    (hs : ∀ (k : Nat) (o : Obj), w.heap[k]? = some o → k ≠ μ i → k ≠ b → w'.heap[k]? = some o) (hnew : w'.heap[b]? = some (thingO (ofL []) 1 (if dir = true then some mb else none)))
    (hmap : w'.heap[μ i]? = some o') (ho' : IsMap o' (setM l0 x b)) (hmb : dir = true → MapAt w' mb []) :
    Rep w' B (t.grown (l ++ [x]) dir) (upd φ (t.many + 1) b) (upd μ (t.many + 1) mb) := by
  have hok' : (t.grown (l ++ [x]) dir).Ok := hok.grown hl hd hx hf
  have hi := has_idOf hok hl
  have hne : ∀ j, t.has j → j ≠ t.many + 1 := fun j ⟨b, d, hj⟩ e => fresh_not hok (e ▸ hj)
  have hhas : ∀ j, (t.grown (l ++ [x]) dir).has j → j = t.many + 1 ∨ t.has j := by
    rintro j ⟨b, d, hj⟩
    rcases List.mem_append.1 hj with hj | hj
    · exact Or.inr ⟨b, d, hj⟩
    · cases List.mem_singleton.1 hj; exact Or.inl rfl
  have hz : 0 ≠ t.many + 1 := by omega
  have hmap0 : ∀ s, getM l0 s = (t.find (l ++ [s])).map φ := by
    obtain ⟨_, l1, h1, h2⟩ := hR.dir i l hl hd
    intro s
    rw [← h2 s]
    obtain ⟨o1, ho1, es1, c1, rfl, hst1, hen1⟩ := h1
    obtain ⟨o2, ho2, es2, c2, rfl, hst2, hen2⟩ := hl0
    rw [ho1] at ho2
    cases ho2
    have : l1.map encE = l0.map encE := by rw [← hen1, hen2]
    have : l1 = l0 := by
      refine List.map_inj_right (fun a b e => ?_) |>.1 this
      obtain ⟨a1, a2⟩ := a
      obtain ⟨b1, b2⟩ := b
      simp [encE, ptr] at e
      rw [e.1, e.2]
    rw [this]
  exact {
    root := by
      rw [upd_ne hz]
      exact hs _ _ hR.root (hR.root_ne_map hok hi hd) (fun e => by have := hR.root; rw [e, hbw] at this; simp [thingO, treeO] at this)
    file := by
      intro j d hj
      rcases List.mem_append.1 hj with hj | hj
      · have hjh : t.has j := ⟨_, _, hj⟩
        rw [upd_ne (hne j hjh), grown_links, if_neg (hne j hjh)]
        exact hs _ _ (hR.file j d hj) (hR.thing_ne_map hok hjh hi hd) (hbφ j hjh)
      · cases List.mem_singleton.1 hj
        rw [upd_at, grown_links, if_pos rfl, links_fresh hok]
        exact hnew
    dir := by
      intro j p hp hdj
      rw [grown_idOf hf] at hp
      rw [grown_isDir hok] at hdj
      split at hp
      · rename_i e
        cases hp
        rw [if_pos rfl] at hdj
        subst hdj
        rw [upd_at, upd_at, grown_links, if_pos rfl, links_fresh hok]
        refine ⟨hnew, [], hmb rfl, fun s => ?_⟩
        have : t.find (p ++ [s]) = none := by
          rw [e]
          refine find_none.2 fun k hk => no_below hok hf (by simp) hk
        rw [grown_find hf, if_neg (by rw [e]; intro e2; have := congrArg List.length e2; simp at this), this]
        rfl
      · rename_i e
        have hjh := has_idOf hok hp
        rw [if_neg (hne j hjh)] at hdj
        rw [upd_ne (hne j hjh), upd_ne (hne j hjh), grown_links, if_neg (hne j hjh)]
        obtain ⟨h1, lj, h2, h3⟩ := hR.dir j p hp hdj
        refine ⟨hs _ _ h1 (hR.thing_ne_map hok hjh hi hd) (hbφ j hjh), ?_⟩
        have hmapφ : ∀ (q : List ByteArray), (t.find q).map (upd φ (t.many + 1) b) = (t.find q).map φ := by
          intro q
          cases hq : t.find q with
          | none => rfl
          | some k =>
            simp only [Option.map_some]
            rw [upd_ne (hne k (has_idOf hok (find_idOf hok hq)))]
        by_cases hji : j = i
        · subst hji
          have hpl : p = l := dir_path hok hp hl hd
          subst hpl
          refine ⟨_, ⟨o', hmap, ho'⟩, fun s => ?_⟩
          rw [getM_set, grown_find hf]
          by_cases hsx : s = x
          · subst hsx
            rw [if_pos rfl, if_pos rfl]
            simp [upd_at]
          · rw [if_neg hsx, if_neg (by intro e2; exact hsx (by simpa using e2)), hmapφ]
            exact hmap0 s
        · refine ⟨lj, h2.same (fun o ho => hs _ _ ho (fun e2 => hji (hR.injm _ _ hjh hi hdj hd e2)) (fun e2 => ?_)), fun s => ?_⟩
          · obtain ⟨es, c, hm⟩ := hR.map hok hjh hdj
            rw [e2, hbw] at hm
            cases hm
          · rw [h3 s, grown_find hf, if_neg, hmapφ]
            intro e2
            have : p = l := by
              have := congrArg List.dropLast e2
              simpa using this
            subst this
            rw [hl] at hp
            exact hji (Option.some.inj hp).symm
    inj := by
      intro a c ha hc e
      rcases hhas a ha with rfl | ha'
      · rcases hhas c hc with rfl | hc'
        · rfl
        · rw [upd_at, upd_ne (hne c hc')] at e
          exact absurd e.symm (hbφ c hc')
      · rcases hhas c hc with rfl | hc'
        · rw [upd_at, upd_ne (hne a ha')] at e
          exact absurd e (hbφ a ha')
        · rw [upd_ne (hne a ha'), upd_ne (hne c hc')] at e
          exact hR.inj a c ha' hc' e
    injm := by
      intro a c ha hc hda hdc e
      rw [grown_isDir hok] at hda hdc
      rcases hhas a ha with rfl | ha'
      · rcases hhas c hc with rfl | hc'
        · rfl
        · rw [if_neg (hne c hc')] at hdc
          rw [upd_at, upd_ne (hne c hc')] at e
          exact absurd e.symm (hbμ c hc' hdc)
      · rw [if_neg (hne a ha')] at hda
        rcases hhas c hc with rfl | hc'
        · rw [upd_at, upd_ne (hne a ha')] at e
          exact absurd e (hbμ a ha' hda)
        · rw [if_neg (hne c hc')] at hdc
          rw [upd_ne (hne a ha'), upd_ne (hne c hc')] at e
          exact hR.injm a c ha' hc' hda hdc e }

theorem MapAt.uniq {m : Nat} {l1 l2 : List (ByteArray × Nat)} (h1 : MapAt w m l1) (h2 : MapAt w m l2) : l1 = l2 := by
  obtain ⟨o1, ho1, es1, c1, rfl, _, hen1⟩ := h1
  obtain ⟨o2, ho2, es2, c2, rfl, _, hen2⟩ := h2
  rw [ho1] at ho2
  cases ho2
  have : l1.map encE = l2.map encE := by rw [← hen1, hen2]
  refine List.map_inj_right (fun a b e => ?_) |>.1 this
  obtain ⟨a1, a2⟩ := a
  obtain ⟨b1, b2⟩ := b
  simp [encE, ptr] at e
  rw [e.1, e.2]
theorem Rep.entries (hR : Rep w B t φ μ) {i : Nat} {p : List ByteArray} (hp : t.idOf p = some i) (hd : t.isDir i = true) {l : List (ByteArray × Nat)} (hl : MapAt w (μ i) l) (s : ByteArray) : getM l s = (t.find (p ++ [s])).map φ := by
  obtain ⟨_, l1, h1, h2⟩ := hR.dir i p hp hd
  rw [hl.uniq h1]
  exact h2 s
theorem named_links (q : List ByteArray) (k j : Nat) : (t.named q k).links j = t.links j + if j = k then 1 else 0 := by
  unfold Sp.Tree.links Sp.Tree.named
  simp only [List.countP_append, List.countP_cons, List.countP_nil]
  by_cases h : j = k
  · simp [h]
  · simp [h, Ne.symm h]
theorem named_find {q : List ByteArray} (hf : t.find q = none) {p : List ByteArray} {k : Nat} : (t.named q k).find p = if p = q then some k else t.find p := find_more (things := t.things) (a := t.many) hf
theorem named_idOf {l : List ByteArray} {x : ByteArray} {k : Nat} (hf : t.find (l ++ [x]) = none) {p : List ByteArray} : (t.named (l ++ [x]) k).idOf p = if p = l ++ [x] then some k else t.idOf p := by
  unfold Sp.Tree.idOf
  by_cases h0 : p = []
  · subst h0
    rw [if_pos rfl, if_neg (by simp), if_pos rfl]
  · rw [if_neg h0, if_neg h0, named_find hf]

/-- A file's other name. -/
theorem Rep.named (hR : Rep w B t φ μ) (hok : t.Ok) {l : List ByteArray} {x : ByteArray} {i k : Nat} {d : ByteArray} (hl : t.idOf l = some i) (hd : t.isDir i = true) (hx : nameB x = true) (hf : t.find (l ++ [x]) = none) (hk : (k, false, d) ∈ t.things)
    {l0 : List (ByteArray × Nat)} {o' : Obj} (hl0 : MapAt w (μ i) l0)
    (hs : ∀ (b : Nat) (o : Obj), w.heap[b]? = some o → b ≠ μ i → b ≠ φ k → w'.heap[b]? = some o) (hthing : w'.heap[φ k]? = some (thingO d (t.links k + 1) none))
    (hmap : w'.heap[μ i]? = some o') (ho' : IsMap o' (setM l0 x (φ k))) : Rep w' B (t.named (l ++ [x]) k) φ μ := by
  have hi := has_idOf hok hl
  have hkh : t.has k := ⟨_, _, hk⟩
  have hkd := isDir_of hok hk
  exact {
    root := hs _ _ hR.root (hR.root_ne_map hok hi hd) (hR.root_ne_thing hok hkh)
    file := by
      intro j e hj
      have hjh : t.has j := ⟨_, _, hj⟩
      rw [named_links]
      by_cases hjk : j = k
      · subst hjk
        rw [if_pos rfl]
        have := dataOf_of hok hj
        rw [dataOf_of hok hk] at this
        subst this
        exact hthing
      · rw [if_neg hjk]
        exact hs _ _ (hR.file j e hj) (hR.thing_ne_map hok hjh hi hd) (fun e2 => hjk (hR.inj _ _ hjh hkh e2))
    dir := by
      intro j p hp hdj
      rw [named_idOf hf] at hp
      have hjk : j ≠ k := fun e => by
        subst e
        have : t.isDir j = true := hdj
        rw [hkd] at this
        cases this
      split at hp
      · exact absurd (Option.some.inj hp).symm hjk
      · have hjh := has_idOf hok hp
        obtain ⟨h1, lj, h2, h3⟩ := hR.dir j p hp hdj
        rw [named_links, if_neg hjk]
        refine ⟨hs _ _ h1 (hR.thing_ne_map hok hjh hi hd) (fun e2 => hjk (hR.inj _ _ hjh hkh e2)), ?_⟩
        by_cases hji : j = i
        · subst hji
          have hpl : p = l := dir_path hok hp hl hd
          subst hpl
          refine ⟨_, ⟨o', hmap, ho'⟩, fun s => ?_⟩
          rw [getM_set, named_find hf]
          by_cases hsx : s = x
          · subst hsx
            rw [if_pos rfl, if_pos rfl]
            rfl
          · rw [if_neg hsx, if_neg (by intro e2; exact hsx (by simpa using e2))]
            exact hR.entries hl hd hl0 s
        · refine ⟨lj, h2.same (fun o ho => hs _ _ ho (fun e2 => hji (hR.injm _ _ hjh hi hdj hd e2)) (Ne.symm (hR.thing_ne_map hok hkh hjh hdj))), fun s => ?_⟩
          rw [h3 s, named_find hf, if_neg]
          intro e2
          have : p = l := by
            have := congrArg List.dropLast e2
            simpa using this
          subst this
          rw [hl] at hp
          exact hji (Option.some.inj hp).symm
    inj := hR.inj
    injm := hR.injm }

theorem forget_links (hok : t.Ok) {p : List ByteArray} {i : Nat} (hf : t.find p = some i) (j : Nat) : (t.forget p).links j = t.links j - if j = i then 1 else 0 := by
  unfold Sp.Tree.links
  rw [(forget_cases hok hf).1, List.countP_filter]
  have hp := (find_mem hok).1 hf
  have hn := hok.nodup
  by_cases hj : j = i
  · subst hj
    rw [if_pos rfl]
    -- the name p is counted once
    have key : ∀ L : List (List ByteArray × Nat), (L.map (·.1)).Nodup → (p, j) ∈ L → L.countP (fun x => decide (x.2 = j) && decide (x.1 ≠ p)) + 1 = L.countP (fun x => decide (x.2 = j)) := by
      intro L
      induction L with
      | nil => intro _ h; cases h
      | cons y r ih =>
        intro hn hm
        rw [List.map_cons, List.nodup_cons] at hn
        rw [List.countP_cons, List.countP_cons]
        rcases List.mem_cons.1 hm with e | hm
        · subst e
          have : r.countP (fun x => decide (x.2 = j) && decide (x.1 ≠ p)) = r.countP (fun x => decide (x.2 = j)) := by
            apply List.countP_congr
            intro z hz
            have : z.1 ≠ p := fun e => hn.1 (by rw [← e]; exact List.mem_map.2 ⟨z, hz, rfl⟩)
            simp [this]
          rw [this]
          simp
        · have hne : y.1 ≠ p := fun e => hn.1 (by rw [e]; exact List.mem_map.2 ⟨_, hm, rfl⟩)
          have e1 : (decide (y.2 = j) && decide (y.1 ≠ p)) = decide (y.2 = j) := by simp [hne]
          have := ih hn.2 hm
          rw [e1]
          omega
    have := key _ hn hp
    omega
  · rw [if_neg hj, Nat.sub_zero]
    apply List.countP_congr
    intro z hz
    by_cases hzj : z.2 = j
    · have : z.1 ≠ p := fun e => hj (by
        obtain ⟨z1, z2⟩ := z
        simp only at e hzj
        subst e
        subst hzj
        exact mem_uniq hok hz hp)
      simp [hzj, this]
    · simp [hzj]
theorem links_pos (hok : t.Ok) {p : List ByteArray} {i : Nat} (hf : t.find p = some i) : 1 ≤ t.links i := by
  unfold Sp.Tree.links
  exact List.countP_pos_iff.2 ⟨_, (find_mem hok).1 hf, by simp⟩
theorem forget_idOf (hok : t.Ok) {p : List ByteArray} {i : Nat} (hf : t.find p = some i) {q : List ByteArray} {j : Nat} (hq : (t.forget p).idOf q = some j) : t.idOf q = some j ∧ q ≠ p := by
  have hp0 := hok.ne _ _ ((find_mem hok).1 hf)
  unfold Sp.Tree.idOf at hq ⊢
  by_cases h0 : q = []
  · rw [if_pos h0] at hq
    rw [if_pos h0]
    exact ⟨hq, by rw [h0]; exact Ne.symm hp0⟩
  · rw [if_neg h0, find_forget hok hf] at hq
    rw [if_neg h0]
    split at hq
    · cases hq
    · rename_i hne
      exact ⟨hq, hne⟩

/-- A name less. -/
theorem Rep.forget (hR : Rep w B t φ μ) (hok : t.Ok) {l : List ByteArray} {x : ByteArray} {i k : Nat} {d : ByteArray} {m : Option Nat} (hl : t.idOf l = some i) (hd : t.isDir i = true) (hf : t.find (l ++ [x]) = some k) (hbelow : ∀ s j, (l ++ [x] ++ [s], j) ∉ t.names)
    {l0 : List (ByteArray × Nat)} {o' : Obj} (hl0 : MapAt w (μ i) l0)
    (hs : ∀ (b : Nat) (o : Obj), w.heap[b]? = some o → b ≠ μ i → b ≠ φ k → w'.heap[b]? = some o) (hwas : w.heap[φ k]? = some (thingO d (t.links k) m)) (hthing : w'.heap[φ k]? = some (thingO d (t.links k - 1) m))
    (hmap : w'.heap[μ i]? = some o') (ho' : IsMap o' (delM l0 x)) : Rep w' B (t.forget (l ++ [x])) φ μ := by
  have hi := has_idOf hok hl
  have hkh := has_idOf hok (find_idOf hok hf)
  have hhas : ∀ j, (t.forget (l ++ [x])).has j → t.has j := fun j ⟨b, e, hj⟩ => ⟨b, e, ((forget_thing hok hf).1 hj).1⟩
  have hok' := hok.forget hf hbelow
  have hdir : ∀ j, (t.forget (l ++ [x])).has j → (t.forget (l ++ [x])).isDir j = t.isDir j := by
    rintro j ⟨b, e, hj⟩
    rw [isDir_of hok' hj, isDir_of hok ((forget_thing hok hf).1 hj).1]
  exact {
    root := hs _ _ hR.root (hR.root_ne_map hok hi hd) (hR.root_ne_thing hok hkh)
    file := by
      intro j e hj
      have hj1 := ((forget_thing hok hf).1 hj).1
      have hjh : t.has j := ⟨_, _, hj1⟩
      rw [forget_links hok hf]
      by_cases hjk : j = k
      · subst hjk
        rw [if_pos rfl]
        have := hR.file j e hj1
        rw [hwas] at this
        simp only [thingO, Option.some.injEq, Obj.cells.injEq] at this
        have h2 : d = e ∧ m = none := by simpa using this
        rw [← h2.1, ← h2.2]
        exact hthing
      · rw [if_neg hjk, Nat.sub_zero]
        exact hs _ _ (hR.file j e hj1) (hR.thing_ne_map hok hjh hi hd) (fun e2 => hjk (hR.inj _ _ hjh hkh e2))
    dir := by
      intro j p hp hdj
      have hjh' := has_idOf hok' hp
      have hboth := forget_idOf hok hf hp
      clear hp
      obtain ⟨hp, hne⟩ := hboth
      rw [hdir j hjh'] at hdj
      have hjh := has_idOf hok hp
      have hjk : j ≠ k := fun e => by
        subst e
        exact hne (dir_path hok hp (find_idOf hok hf) hdj)
      obtain ⟨h1, lj, h2, h3⟩ := hR.dir j p hp hdj
      rw [forget_links hok hf, if_neg hjk, Nat.sub_zero]
      refine ⟨hs _ _ h1 (hR.thing_ne_map hok hjh hi hd) (fun e2 => hjk (hR.inj _ _ hjh hkh e2)), ?_⟩
      by_cases hji : j = i
      · subst hji
        have hpl : p = l := dir_path hok hp hl hd
        subst hpl
        refine ⟨_, ⟨o', hmap, ho'⟩, fun s => ?_⟩
        rw [getM_del, find_forget hok hf]
        by_cases hsx : s = x
        · subst hsx
          rw [if_pos rfl, if_pos rfl]
          rfl
        · rw [if_neg hsx, if_neg (by intro e2; exact hsx (by simpa using e2))]
          exact hR.entries hl hd hl0 s
      · refine ⟨lj, h2.same (fun o ho => hs _ _ ho (fun e2 => hji (hR.injm _ _ hjh hi hdj hd e2)) (Ne.symm (hR.thing_ne_map hok hkh hjh hdj))), fun s => ?_⟩
        rw [h3 s, find_forget hok hf, if_neg]
        intro e2
        have : p = l := by
          have := congrArg List.dropLast e2
          simpa using this
        subst this
        rw [hl] at hp
        exact hji (Option.some.inj hp).symm
    inj := fun a b ha hb => hR.inj a b (hhas a ha) (hhas b hb)
    injm := fun a b ha hb hda hdb => hR.injm a b (hhas a ha) (hhas b hb) (by rw [← hdir a ha]; exact hda) (by rw [← hdir b hb]; exact hdb) }
end
end Go.Proofs.YtcgpmnlondnbhaaGreatDoor

namespace Go.Proofs.YtcgpmnlondnbhaaGreatDoor
open Go Go.RowKit Txt Sp

section
variable {w w' : World} {B : Nat} {t : Sp.Tree} {φ μ : Nat → Nat}

/-- What a rename leaves of a directory's entries: a: where the name was, c: where it goes. -/
def moveM (a c : Nat) (x y : ByteArray) (b : Nat) (j : Nat) (l : List (ByteArray × Nat)) : List (ByteArray × Nat) :=
  let l1 := if j = a then delM l x else l
  if j = c then setM l1 y b else l1
theorem getM_move (a c : Nat) (x y : ByteArray) (b j : Nat) (l : List (ByteArray × Nat)) (s : ByteArray) :
    getM (moveM a c x y b j l) s = if j = c ∧ s = y then some b else if j = a ∧ s = x then none else getM l s := by
  have common : getM (if j = a then delM l x else l) s = if j = a ∧ s = x then none else getM l s := by
    by_cases ha : j = a
    · rw [if_pos ha, getM_del]
      by_cases hx : s = x
      · rw [if_pos hx, if_pos ⟨ha, hx⟩]
      · rw [if_neg hx, if_neg (fun h => hx h.2)]
    · rw [if_neg ha, if_neg (fun h => ha h.1)]
  unfold moveM
  simp only
  by_cases hc : j = c
  · rw [if_pos hc, getM_set]
    by_cases hs : s = y
    · rw [if_pos hs, if_pos ⟨hc, hs⟩]
    · rw [if_neg hs, common, if_neg (fun h : j = c ∧ s = y => hs h.2)]
  · rw [if_neg hc, common, if_neg (fun h : j = c ∧ s = y => hc h.1)]

theorem move_isDir (dir : Bool) (p q : List ByteArray) (j : Nat) : (t.move dir p q).isDir j = t.isDir j := rfl

theorem Rep.move (hR : Rep w B t φ μ) (hok : t.Ok) {lp l : List ByteArray} {x y : ByteArray} {a i k : Nat} (ha : t.idOf lp = some a) (had : t.isDir a = true) (hf : t.find (lp ++ [x]) = some i) (hl : t.idOf l = some k) (hd : t.isDir k = true) (hy : nameB y = true)
    (hq : t.find (l ++ [y]) = none) (hloop : t.isDir i = true → ¬ lp ++ [x] <+: l ++ [y])
    (hs : ∀ (b : Nat) (o : Obj), w.heap[b]? = some o → b ≠ μ a → b ≠ μ k → w'.heap[b]? = some o)
    (hm : ∀ j lj, t.has j → t.isDir j = true → (j = a ∨ j = k) → MapAt w (μ j) lj → MapAt w' (μ j) (moveM a k x y (φ i) j lj)) :
    Rep w' B (t.move (t.isDir i) (lp ++ [x]) (l ++ [y])) φ μ := by
  have hp := (find_mem hok).1 hf
  have hok' := hok.move hp hl hd hy hq hloop
  have hah := has_idOf hok ha
  have hkh := has_idOf hok hl
  have hpl : ¬ lp ++ [x] <+: l := by
    rintro ⟨e, he⟩
    cases hdi : t.isDir i with
    | true => exact hloop hdi ⟨e ++ [y], by rw [← List.append_assoc, he]⟩
    | false =>
      rcases idOf_mem hok hl with ⟨e1, _⟩ | hm
      · subst e1; simp at he
      · have := below_file hok hp hdi (r := e) (j := k) (by rw [he]; exact hm)
        subst this
        rw [List.append_nil] at he
        rw [he] at hp
        have := mem_uniq hok hp hm
        subst this
        rw [hdi] at hd
        cases hd
  exact {
    root := hs _ _ hR.root (hR.root_ne_map hok hah had) (hR.root_ne_map hok hkh hd)
    file := by
      intro j e hj
      have hjh : t.has j := ⟨_, _, hj⟩
      rw [move_links]
      exact hs _ _ (hR.file j e hj) (hR.thing_ne_map hok hjh hah had) (hR.thing_ne_map hok hjh hkh hd)
    dir := by
      intro j p hpj hdj
      have hdj' : t.isDir j = true := hdj
      rw [move_links]
      have hfm := find_move hok hp hl hd hy hq hloop
      -- the entries of a directory that is neither of the two
      have other : ∀ r, t.idOf r = some j → j ≠ a → j ≠ k → w'.heap[φ j]? = some (thingO (ofL []) (t.links j) (some (μ j))) ∧ ∃ l', MapAt w' (μ j) l' ∧ ∀ s, getM l' s = (t.find (r ++ [s])).map φ := by
        intro r hr hja hjk
        have hjh := has_idOf hok hr
        obtain ⟨h1, lj, h2, h3⟩ := hR.dir j r hr hdj'
        exact ⟨hs _ _ h1 (hR.thing_ne_map hok hjh hah had) (hR.thing_ne_map hok hjh hkh hd), lj,
          h2.same (fun o ho => hs _ _ ho (fun e => hja (hR.injm _ _ hjh hah hdj' had e)) (fun e => hjk (hR.injm _ _ hjh hkh hdj' hd e))), h3⟩
      by_cases hqp : l ++ [y] <+: p
      · obtain ⟨e, rfl⟩ := hqp
        have hj : t.idOf (lp ++ [x] ++ e) = some j := by
          rw [idOf_find (by simp), hfm, if_pos (List.prefix_append _ _), List.drop_left] at hpj
          exact find_idOf hok hpj
        have hja : j ≠ a := by
          intro e1
          subst e1
          have := congrArg List.length (dir_path hok hj ha had)
          simp at this
        have hjk : j ≠ k := by
          intro e1
          subst e1
          have := dir_path hok hj hl hd
          exact hpl ⟨e, this⟩
        obtain ⟨h1, lj, h2, h3⟩ := other _ hj hja hjk
        refine ⟨h1, lj, h2, fun s => ?_⟩
        have e2 : l ++ [y] ++ e ++ [s] = l ++ [y] ++ (e ++ [s]) := List.append_assoc _ _ _
        rw [h3 s, hfm, e2, if_pos (List.prefix_append _ _), List.drop_left, List.append_assoc (lp ++ [x])]
      · have hj : t.idOf p = some j ∧ ¬ lp ++ [x] <+: p := by
          by_cases h0 : p = []
          · subst h0
            exact ⟨hpj, by intro h; have := h.length_le; simp at this⟩
          · rw [idOf_find h0, hfm, if_neg hqp] at hpj
            split at hpj
            · cases hpj
            · rename_i hn
              exact ⟨find_idOf hok hpj, hn⟩
        obtain ⟨hj, hpp⟩ := hj
        have hjh := has_idOf hok hj
        have hval : ∀ s, (t.move (t.isDir i) (lp ++ [x]) (l ++ [y])).find (p ++ [s]) = if j = k ∧ s = y then some i else if j = a ∧ s = x then none else t.find (p ++ [s]) := by
          intro s
          rw [hfm]
          by_cases h1 : l ++ [y] <+: p ++ [s]
          · have e : l ++ [y] = p ++ [s] := by
              rcases List.prefix_concat_iff.1 h1 with e | e
              · exact e
              · exact absurd e hqp
            have e1 : l = p := by have := congrArg List.dropLast e; simpa using this
            have e2 : y = s := by have := congrArg List.getLast? e; simpa using this
            subst e1
            subst e2
            rw [hl] at hj
            have hkj := Option.some.inj hj
            rw [if_pos h1, if_pos ⟨hkj.symm, rfl⟩, List.drop_length, List.append_nil, hf]
          · rw [if_neg h1]
            have hn : ¬ (j = k ∧ s = y) := by
              rintro ⟨rfl, rfl⟩
              have := dir_path hok hj hl hd
              subst this
              exact h1 (List.prefix_refl _)
            rw [if_neg hn]
            by_cases h2 : lp ++ [x] <+: p ++ [s]
            · have e : lp ++ [x] = p ++ [s] := by
                rcases List.prefix_concat_iff.1 h2 with e | e
                · exact e
                · exact absurd e hpp
              have e1 : lp = p := by have := congrArg List.dropLast e; simpa using this
              have e2 : x = s := by have := congrArg List.getLast? e; simpa using this
              subst e1
              subst e2
              rw [ha] at hj
              have haj := Option.some.inj hj
              rw [if_pos h2, if_pos ⟨haj.symm, rfl⟩]
            · rw [if_neg h2, if_neg]
              rintro ⟨rfl, rfl⟩
              have := dir_path hok hj ha had
              subst this
              exact h2 (List.prefix_refl _)
        by_cases hak : j = a ∨ j = k
        · obtain ⟨h1, lj, h2, h3⟩ := hR.dir j p hj hdj'
          refine ⟨hs _ _ h1 (hR.thing_ne_map hok hjh hah had) (hR.thing_ne_map hok hjh hkh hd), _, hm j lj hjh hdj' hak h2, fun s => ?_⟩
          rw [getM_move, hval, h3 s]
          split
          · rfl
          · split
            · rfl
            · rfl
        · obtain ⟨h1, lj, h2, h3⟩ := other p hj (fun e => hak (Or.inl e)) (fun e => hak (Or.inr e))
          refine ⟨h1, lj, h2, fun s => ?_⟩
          rw [h3 s, hval, if_neg (fun e => hak (Or.inr e.1)), if_neg (fun e => hak (Or.inl e.1))]
    inj := hR.inj
    injm := hR.injm }

/-- A file's new bytes. -/
theorem Rep.set (hR : Rep w B t φ μ) (hok : t.Ok) {i : Nat} {d d' : ByteArray} (hi : (i, false, d) ∈ t.things) (hs' : d'.size ≤ 2560)
    (hs : ∀ (b : Nat) (o : Obj), w.heap[b]? = some o → b ≠ φ i → w'.heap[b]? = some o) (hthing : w'.heap[φ i]? = some (thingO d' (t.links i) none)) : Rep w' B (t.set i d') φ μ := by
  have hih : t.has i := ⟨_, _, hi⟩
  have hid := isDir_of hok hi
  have hok' := hok.set hi hs'
  have hmem : ∀ j b e, (j, b, e) ∈ (t.set i d').things → (j ≠ i ∧ (j, b, e) ∈ t.things) ∨ (j = i ∧ b = false ∧ e = d') := by
    intro j b e hm
    obtain ⟨x, hx, he⟩ := List.mem_map.1 hm
    obtain ⟨a, c, f⟩ := x
    simp only at he
    split at he
    · rename_i ha
      subst ha
      cases he
      have := isDir_of hok hx
      rw [hid] at this
      exact Or.inr ⟨rfl, this.symm, rfl⟩
    · rename_i ha
      cases he
      exact Or.inl ⟨ha, hx⟩
  have hhas : ∀ j, (t.set i d').has j → t.has j := by
    rintro j ⟨b, e, hj⟩
    rcases hmem j b e hj with ⟨_, h⟩ | ⟨rfl, _, _⟩
    · exact ⟨_, _, h⟩
    · exact hih
  have hdir : ∀ j, (t.set i d').has j → (t.set i d').isDir j = t.isDir j := by
    rintro j ⟨b, e, hj⟩
    rw [isDir_of hok' hj]
    rcases hmem j b e hj with ⟨_, h⟩ | ⟨rfl, rfl, _⟩
    · rw [isDir_of hok h]
    · rw [hid]
  exact {
    root := hs _ _ hR.root (hR.root_ne_thing hok hih)
    file := by
      intro j e hj
      rcases hmem j false e hj with ⟨hne, h⟩ | ⟨rfl, _, rfl⟩
      · exact hs _ _ (hR.file j e h) (fun e2 => hne (hR.inj _ _ ⟨_, _, h⟩ hih e2))
      · exact hthing
    dir := by
      intro j p hp hdj
      have hjh := has_idOf hok' hp
      rw [hdir j hjh] at hdj
      have hji : j ≠ i := fun e => by rw [e, hid] at hdj; cases hdj
      obtain ⟨h1, lj, h2, h3⟩ := hR.dir j p hp hdj
      exact ⟨hs _ _ h1 (fun e2 => hji (hR.inj _ _ (hhas j hjh) hih e2)), lj, h2.same (fun o ho => hs _ _ ho (Ne.symm (hR.thing_ne_map hok hih (hhas j hjh) hdj))), h3⟩
    inj := fun a b ha hb => hR.inj a b (hhas a ha) (hhas b hb)
    injm := fun a b ha hb hda hdb => hR.injm a b (hhas a ha) (hhas b hb) (by rw [← hdir a ha]; exact hda) (by rw [← hdir b hb]; exact hdb) }
end
end Go.Proofs.YtcgpmnlondnbhaaGreatDoor

namespace Go.Proofs.YtcgpmnlondnbhaaGreatDoor
open Go Go.RowKit Txt Sp

theorem nodup_perm {α : Type} [DecidableEq α] : ∀ {a b : List α}, a.Nodup → b.Nodup → (∀ x, x ∈ a ↔ x ∈ b) → a.Perm b
  | [], b, _, _, h => by
    cases b with
    | nil => exact List.Perm.refl _
    | cons x r => exact absurd ((h x).2 (by simp)) (by simp)
  | x :: r, b, ha, hb, h => by
    have hx : x ∈ b := (h x).1 (by simp)
    rw [List.nodup_cons] at ha
    refine List.Perm.trans (List.Perm.cons x (nodup_perm ha.2 (hb.erase x) (fun y => ?_))) (List.perm_cons_erase hx).symm
    rw [hb.mem_erase_iff]
    constructor
    · intro hy
      exact ⟨fun e => ha.1 (e ▸ hy), (h y).1 (List.mem_cons_of_mem _ hy)⟩
    · rintro ⟨hne, hy⟩
      rcases List.mem_cons.1 ((h y).2 hy) with e | hy
      · exact absurd e hne
      · exact hy

theorem kidsL_nodup {t : Sp.Tree} (hok : t.Ok) (p : List ByteArray) : (t.kidsL p).Nodup := by
  unfold Sp.Tree.kidsL
  have hn := hok.nodup
  generalize t.names = L at hn
  induction L with
  | nil => simp
  | cons x r ih =>
    rw [List.map_cons, List.nodup_cons] at hn
    rw [List.filterMap_cons]
    split
    · exact ih hn.2
    · rename_i s hs
      rw [List.nodup_cons]
      refine ⟨fun hm => ?_, ih hn.2⟩
      obtain ⟨y, hy, hys⟩ := List.mem_filterMap.1 hm
      have key : ∀ z : List ByteArray × Nat, (if z.1.dropLast = p then z.1.getLast? else none) = some s → z.1 = p ++ [s] := by
        intro z hz
        split at hz
        · rename_i hd
          have hne : z.1 ≠ [] := fun e => by rw [e] at hz; cases hz
          rw [List.getLast?_eq_some_getLast hne] at hz
          rw [← hd, ← Option.some.inj hz, List.dropLast_concat_getLast hne]
        · cases hz
      exact hn.1 (by rw [key x hs, ← key y hys]; exact List.mem_map.2 ⟨y, hy, rfl⟩)

theorem getM_mem {l : List (ByteArray × Nat)} {s : ByteArray} : (getM l s).isSome ↔ s ∈ l.map (·.1) := by
  unfold getM
  rw [Option.isSome_map, List.find?_isSome, List.mem_map]
  constructor
  · rintro ⟨x, hx, e⟩
    exact ⟨x, hx, of_decide_eq_true e⟩
  · rintro ⟨x, hx, e⟩
    exact ⟨x, hx, by simp [e]⟩

section
variable {w : World} {B : Nat} {t : Sp.Tree} {φ μ : Nat → Nat}
theorem MapAt.nodup {m : Nat} {l : List (ByteArray × Nat)} (h : MapAt w m l) : (l.map (·.1)).Nodup := by
  obtain ⟨o, ho, es, c, rfl, hst, hen⟩ := h
  exact keys_nodup hen hst
theorem Rep.keys (hR : Rep w B t φ μ) (hok : t.Ok) {i : Nat} {p : List ByteArray} (hp : t.idOf p = some i) (hd : t.isDir i = true) {l : List (ByteArray × Nat)} (hl : MapAt w (μ i) l) : (l.map (·.1)).Perm (t.kidsL p) := by
  refine nodup_perm hl.nodup (kidsL_nodup hok p) (fun s => ?_)
  rw [← getM_mem, hR.entries hp hd hl, Option.isSome_map, kidsL_mem]
  constructor
  · intro h
    obtain ⟨j, hj⟩ := Option.isSome_iff_exists.1 h
    exact ⟨j, (find_mem hok).1 hj⟩
  · rintro ⟨j, hj⟩
    rw [(find_mem hok).2 hj]
    rfl
theorem Rep.len (hR : Rep w B t φ μ) (hok : t.Ok) {i : Nat} {p : List ByteArray} (hp : t.idOf p = some i) (hd : t.isDir i = true) {l : List (ByteArray × Nat)} (hl : MapAt w (μ i) l) : l.length = (t.kidsL p).length := by
  have := (hR.keys hok hp hd hl).length_eq
  rw [List.length_map] at this
  exact this
end
end Go.Proofs.YtcgpmnlondnbhaaGreatDoor

namespace Go.Proofs.YtcgpmnlondnbhaaGreatDoor
open Go Go.RowKit Txt Sp

/-- Nothing below a world's end has turned but at places of K. -/
structure Turn (K : Nat → Prop) (w w' : World) : Prop where
  os : w'.os = w.os
  tape : w'.tape = w.tape
  output : w'.output = w.output
  size : w.heap.size ≤ w'.heap.size
  block : ∀ k, k < w.heap.size → ¬ K k → w'.heap[k]? = w.heap[k]?
theorem Turn.of_below {K : Nat → Prop} {w w' : World} (h : Below w.heap.size w w') : Turn K w w' := ⟨h.os, h.tape, h.output, h.size, fun k hk _ => h.block k hk⟩
theorem Turn.refl (K : Nat → Prop) (w : World) : Turn K w w := Turn.of_below (Below.refl _ _)
theorem Turn.trans {K K1 K2 : Nat → Prop} {a b c : World} (h : Turn K1 a b) (g : Turn K2 b c) (h1 : ∀ k, k < a.heap.size → K1 k → K k) (h2 : ∀ k, k < a.heap.size → K2 k → K k) : Turn K a c :=
  ⟨g.os.trans h.os, g.tape.trans h.tape, g.output.trans h.output, Nat.le_trans h.size g.size, fun k hk hn => (g.block k (Nat.lt_of_lt_of_le hk h.size) (fun e => hn (h2 k hk e))).trans (h.block k hk (fun e => hn (h1 k hk e)))⟩
theorem Turn.mono {K K' : Nat → Prop} {a b : World} (h : Turn K a b) (hk : ∀ k, k < a.heap.size → K k → K' k) : Turn K' a b :=
  ⟨h.os, h.tape, h.output, h.size, fun k hk' hn => h.block k hk' (fun e => hn (hk k hk' e))⟩
theorem Turn.below {K : Nat → Prop} {a b : World} {n : Nat} (h : Turn K a b) (hk : ∀ k, K k → n ≤ k) (hn : n ≤ a.heap.size) : Below n a b :=
  ⟨h.os, h.tape, h.output, h.size, fun k hk' => h.block k (by omega) (fun e => by have := hk k e; omega)⟩
theorem Turn.heap {K : Nat → Prop} {a b : World} (h : Turn K a b) {k : Nat} {o : Obj} (ho : a.heap[k]? = some o) (hk : ¬ K k) : b.heap[k]? = some o := by
  rw [h.block k (Array.getElem?_eq_some_iff.1 ho).1 hk]; exact ho

theorem bcell {a b : World} (h : Below a.heap.size a b) : (∀ k o, k < a.heap.size → b.cell? ⟨k, o, none⟩ = a.cell? ⟨k, o, none⟩) ∧ (∀ k o, k < a.heap.size → b.frozen? ⟨k, o, none⟩ = a.frozen? ⟨k, o, none⟩) :=
  ⟨fun k o hk => h.cell (p := ⟨k, o, none⟩) hk, fun k o hk => h.frozen (p := ⟨k, o, none⟩) hk⟩

section
set_option maxHeartbeats 1000000

/-- at: what a path stands for. -/
theorem tat_any {w : World} {B : Nat} {t : Sp.Tree} {φ μ : Nat → Nat} (hR : Rep w B t φ μ) (hok : t.Ok) (p : ByteArray) (hm : MaxOk w) (hs : p.size ≤ 4000000000) :
    Calls Tryz.prog 51 #[ptr B, .string p] w fun e w' => e = .returned (.tuple #[thingV φ (t.at p), .int .i64 (t.at p).2]) ∧ Below w.heap.size w w' := by
  rcases splitN_or p with ⟨l, h, h8⟩ | ⟨c, h, hc⟩
  · have H := Lib.hid h
    have HA : Hid (t.at p = t.walk [] l 0) := by show t.at p = _; unfold Sp.Tree.at; rw [h]; rfl
    have HR := Lib.hid hR
    have HOK := Lib.hid hok
    clear h hR hok
    go_enter Tryz.func51, Tryz.ntmps51
    go_wp2_with fail
    refine (split_ok H _ hm hs).mono ?_
    rintro e w1 ⟨v, rfl, hv, hb⟩
    go_wp2_with fail
    refine (twalk_any (HR.out.below hb) HOK.out v l hv h8).mono ?_
    rintro e w2 ⟨rfl, rfl⟩
    go_wp2
    go_ret2
    rw [HA.out]
    exact ⟨rfl, hb⟩
  · have H := Lib.hid h
    have HA : Hid (t.at p = (0, c)) := by show t.at p = _; unfold Sp.Tree.at; rw [h]; simp [beq_eq_false_iff_ne.1 hc]
    clear h hR hok
    have hc0 := Lib.hid (beq_eq_false_iff_ne.1 hc)
    go_enter Tryz.func51, Tryz.ntmps51
    go_wp2_with fail
    refine (split_err H _ hm hs).mono ?_
    rintro e w1 ⟨v, rfl, hv, hb⟩
    go_wp2
    go_ret2
    rw [HA.out, thingV_err rfl hc0.out]
    exact ⟨rfl, hb⟩

theorem last_short {p : ByteArray} {l : List ByteArray} {x : ByteArray} (h1 : lastN p = (l, x, 0)) : l.length ≤ 8 := by
  rcases lastN_cases p with ⟨c, hl, hc⟩ | ⟨l', x', hl, hs⟩
  · rw [h1] at hl
    cases hl
    cases hc
  · rw [h1] at hl
    cases hl
    have := (splitN_short hs).1
    simp at this
    omega

/-- place: the directory and the name. -/
def PlacePost (t : Sp.Tree) (φ : Nat → Nat) (p : ByteArray) (w : World) (e : Ending) (w' : World) : Prop :=
  (∃ v s, e = .returned (.tuple #[.agg #[.pointer v, .string s], .int .i64 (t.dirC p)]) ∧ (t.dirC p = 0 → ∃ l i, lastN p = (l, s, 0) ∧ full p = l ++ [s] ∧ t.idOf l = some i ∧ t.isDir i = true ∧ nameB s = true ∧ v = some ⟨φ i, 0, none⟩)) ∧ Below w.heap.size w w'

theorem place_any {w : World} {B : Nat} {t : Sp.Tree} {φ μ : Nat → Nat} (hR : Rep w B t φ μ) (hok : t.Ok) (p : ByteArray) (hm : MaxOk w) (hs : p.size ≤ 4000000000) :
    Calls Tryz.prog 48 #[ptr B, .string p] w (PlacePost t φ p w) := by
  have m1 := fun (r : Option Nat) (w : World) => run_eql_map_nil (P := Tryz.prog) w 55 _ _ r ht_map
  have HR := Lib.hid hR
  have HOK := Lib.hid hok
  rcases dirTo t p with ⟨c, h1, h2, h3⟩ | ⟨l, x, c, h1, h2, h3, h4⟩ | ⟨l, x, i, h1, h2, h3, h4⟩ | ⟨l, x, i, h1, h2, h3, h4, h5, h6⟩
  · have H := Lib.hid h1
    have HD := Lib.hid h3
    clear h1 h3 hR hok
    go_enter Tryz.func48, Tryz.ntmps48
    go_wp2_with fail
    refine (last_triple H _ (hm.below ((Below.refl _ _).alloc (Nat.le_refl _) _)) hs).mono ?_
    rintro e w1 ⟨ad, n, rfl, hv, hb⟩
    obtain ⟨gc, gf⟩ := bcell hb
    have hz : w.heap.size < w1.heap.size := by have := hb.size; simp at this; omega
    have hc0 := Lib.hid (beq_eq_false_iff_ne.1 h2)
    have HB := Lib.hid (below_next ((Below.refl w.heap.size w).alloc (Nat.le_refl _) _) hb)
    go_wp2
    refine bodyPost_ret (v := .tuple #[.agg #[.pointer none, .string ⟨#[]⟩], .int .i64 c]) (by simp [results, Tryz.results48, go_sem, gc]) rfl ?_
    refine ⟨⟨_, _, by rw [HD.out], fun h0 => absurd (HD.out.symm.trans h0) hc0.out⟩, ?_⟩
    exact (HB.out.setCell (Nat.le_refl _) _).setCell (Nat.le_refl _) _
  · have H := Lib.hid h1
    have HD := Lib.hid h4
    have HW := Lib.hid h2
    have hc0 := Lib.hid (beq_eq_false_iff_ne.1 h3)
    have h8 : l.length ≤ 8 := last_short h1
    clear h1 h2 h4 hR hok
    go_enter Tryz.func48, Tryz.ntmps48
    go_wp2_with fail
    refine (last_triple H _ (hm.below ((Below.refl _ _).alloc (Nat.le_refl _) _)) hs).mono ?_
    rintro e w1 ⟨ad, n, rfl, hv, hb⟩
    obtain ⟨gc, gf⟩ := bcell hb
    have hz : w.heap.size < w1.heap.size := by have := hb.size; simp at this; omega
    have HB := Lib.hid (below_next ((Below.refl w.heap.size w).alloc (Nat.le_refl _) _) hb)
    go_wp2_with fail
    refine (twalk_any (HR.out.below HB.out) HOK.out _ l hv h8).mono ?_
    rintro e w2 ⟨rfl, rfl⟩
    rw [HW.out, thingV_err rfl hc0.out]
    go_wp2
    refine bodyPost_ret (v := .tuple #[.agg #[.pointer none, .string ⟨#[]⟩], .int .i64 c]) (by simp [results, Tryz.results48, go_sem, gc]) rfl ?_
    refine ⟨⟨_, _, by rw [HD.out], fun h0 => absurd (HD.out.symm.trans h0) hc0.out⟩, ?_⟩
    exact (HB.out.setCell (Nat.le_refl _) _).setCell (Nat.le_refl _) _
  · have H := Lib.hid h1
    have HD := Lib.hid h4
    have HW := Lib.hid h2
    have HI : Hid (t.idOf l = some i) := walk_ok l h2 idOf_nil
    have hdir := Lib.hid h3
    have h8 : l.length ≤ 8 := last_short h1
    clear h1 h2 h3 h4 hR hok
    go_enter Tryz.func48, Tryz.ntmps48
    go_wp2_with fail
    refine (last_triple H _ (hm.below ((Below.refl _ _).alloc (Nat.le_refl _) _)) hs).mono ?_
    rintro e w1 ⟨ad, n, rfl, hv, hb⟩
    obtain ⟨gc, gf⟩ := bcell hb
    have hz : w.heap.size < w1.heap.size := by have := hb.size; simp at this; omega
    have HB := Lib.hid (below_next ((Below.refl w.heap.size w).alloc (Nat.le_refl _) _) hb)
    have HR1 := Lib.hid (HR.out.below HB.out)
    have c2 := HR1.out.fileCell HOK.out HI.out hdir.out
    go_wp2_with fail
    refine (twalk_any HR1.out HOK.out _ l hv h8).mono ?_
    rintro e w2 ⟨rfl, rfl⟩
    rw [HW.out, thingV_ok rfl]
    unfold ptr
    go_wp2
    refine bodyPost_ret (v := .tuple #[.agg #[.pointer none, .string ⟨#[]⟩], .int .i64 103]) (by simp [results, Tryz.results48, go_sem, gc]) rfl ?_
    refine ⟨⟨_, _, by rw [HD.out], fun h0 => absurd (HD.out.symm.trans h0) (by decide)⟩, ?_⟩
    exact (HB.out.setCell (Nat.le_refl _) _).setCell (Nat.le_refl _) _
  · have H := Lib.hid h1
    have HD := Lib.hid h4
    have HW := Lib.hid h2
    have H5 := Lib.hid h5
    have H6 := Lib.hid h6
    have HI : Hid (t.idOf l = some i) := walk_ok l h2 idOf_nil
    have hdir := Lib.hid h3
    have h8 : l.length ≤ 8 := last_short h1
    clear h1 h2 h3 h4 h5 h6 hR hok
    go_enter Tryz.func48, Tryz.ntmps48
    go_wp2_with fail
    refine (last_triple H _ (hm.below ((Below.refl _ _).alloc (Nat.le_refl _) _)) hs).mono ?_
    rintro e w1 ⟨ad, n, rfl, hv, hb⟩
    obtain ⟨gc, gf⟩ := bcell hb
    have hz : w.heap.size < w1.heap.size := by have := hb.size; simp at this; omega
    have HB := Lib.hid (below_next ((Below.refl w.heap.size w).alloc (Nat.le_refl _) _) hb)
    have HR1 := Lib.hid (HR.out.below HB.out)
    have c2 := HR1.out.dirCell HI.out hdir.out
    go_wp2_with fail
    refine (twalk_any HR1.out HOK.out _ l hv h8).mono ?_
    rintro e w2 ⟨rfl, rfl⟩
    rw [HW.out, thingV_ok rfl]
    unfold ptr
    go_wp2
    refine bodyPost_ret (v := .tuple #[.agg #[.pointer (some ⟨φ i, 0, none⟩), .string x], .int .i64 0]) (by simp [results, Tryz.results48, go_sem, gc]) rfl ?_
    refine ⟨⟨_, _, by rw [HD.out], fun h0 => ⟨l, i, H.out, H5.out, HI.out, hdir.out, H6.out, rfl⟩⟩, ?_⟩
    exact (HB.out.setCell (Nat.le_refl _) _).setCell (Nat.le_refl _) _

/-- is: what a place's name stands for. -/
theorem is_any {w : World} {B : Nat} {t : Sp.Tree} {φ μ : Nat → Nat} (hR : Rep w B t φ μ) {i : Nat} {p : List ByteArray} (hp : t.idOf p = some i) (hd : t.isDir i = true) (s : ByteArray) :
    Calls Tryz.prog 49 #[.agg #[ptr (φ i), .string s]] w fun e w' => e = .returned (ptrO ((t.find (p ++ [s])).map φ)) ∧ Below w.heap.size w w' := by
  have hb := (Below.refl w.heap.size w).alloc (Nat.le_refl _) (.cells #[ptr (φ i), .string s] 90)
  have hR1 := hR.below hb
  have c2 := hR1.dirCell hp hd
  have hl := fun n => hR1.look hp hd s n
  have HB := Lib.hid hb
  obtain ⟨r, hr⟩ : ∃ r, (t.find (p ++ [s])).map φ = r := ⟨_, rfl⟩
  rw [hr] at hl ⊢
  clear hR hR1 hp hd hb hr
  unfold ptr at c2 hl ⊢
  go_enter Tryz.func49, Tryz.ntmps49
  go_wp2
  go_quiet (fail)
  go_wp2
  go_ret
  exact ⟨rfl, below_drewN HB.out _⟩
end
end Go.Proofs.YtcgpmnlondnbhaaGreatDoor

namespace Go.Proofs.YtcgpmnlondnbhaaGreatDoor
open Go Go.RowKit Txt Sp

theorem heap_setCell_at {w : World} {b k : Nat} {cs : Array Value} {e : TypeId} {fr : Nat × Nat} (h : w.heap[b]? = some (.cells cs e fr)) (v : Value) : (w.setCell ⟨b, k, none⟩ v).heap[b]? = some (.cells (cs.setIfInBounds k v) e fr) := by
  simp [World.setCell, Array.getElem?_modify, h]
theorem heap_setCell_ne {w : World} {b k j : Nat} (v : Value) (h : j ≠ b) : (w.setCell ⟨b, k, none⟩ v).heap[j]? = w.heap[j]? := Below.heap_setCell _ _ _ _ h
theorem size_setCell (w : World) (a : Addr) (v : Value) : (w.setCell a v).heap.size = w.heap.size := by simp [World.setCell]
theorem heap_setBlock_at {w : World} {m : Nat} (o : Obj) (h : m < w.heap.size) : (ChangeMaps.setBlock w m o).heap[m]? = some o := by simp [ChangeMaps.setBlock, h]
theorem heap_setBlock_ne {w : World} {m k : Nat} (o : Obj) (h : k ≠ m) : (ChangeMaps.setBlock w m o).heap[k]? = w.heap[k]? := by simp [ChangeMaps.setBlock, Ne.symm h]
theorem size_setBlock (w : World) (m : Nat) (o : Obj) : (ChangeMaps.setBlock w m o).heap.size = w.heap.size := by simp [ChangeMaps.setBlock]
theorem MapAt.lt {w : World} {m : Nat} {l : List (ByteArray × Nat)} (h : MapAt w m l) : m < w.heap.size := let ⟨_, ho, _⟩ := h; (Array.getElem?_eq_some_iff.1 ho).1
theorem MapAt.ne_cells {w : World} {m b : Nat} {l : List (ByteArray × Nat)} {cs : Array Value} {e : TypeId} {fr : Nat × Nat} (h : MapAt w m l) (hb : w.heap[b]? = some (.cells cs e fr)) : m ≠ b := by
  obtain ⟨o, ho, es, c, rfl, _⟩ := h
  intro e
  rw [e, hb] at ho
  cases ho

/-- A thing's links, turned by one store; a block more; a map turned. -/
theorem turned_links {w : World} {b m : Nat} {xd : ByteArray} {n n' : Nat} {xm : Option Nat} {l : List (ByteArray × Nat)} (hm : MapAt w m l) (hb : w.heap[b]? = some (thingO xd n xm)) (o o' : Obj) (v : Value) (hv : v = .int .i64 n') :
    (ChangeMaps.setBlock ((w.setCell ⟨b, 1, none⟩ v).alloc o).drew m o').heap[m]? = some o' ∧ (ChangeMaps.setBlock ((w.setCell ⟨b, 1, none⟩ v).alloc o).drew m o').heap[b]? = some (thingO xd n' xm) ∧
    Turn (fun k => k = m ∨ k = b) w (ChangeMaps.setBlock ((w.setCell ⟨b, 1, none⟩ v).alloc o).drew m o') := by
  subst hv
  have hlt : b < w.heap.size := (Array.getElem?_eq_some_iff.1 hb).1
  have hml := hm.lt
  have hne := hm.ne_cells hb
  have hsz : ((w.setCell ⟨b, 1, none⟩ (.int .i64 n')).alloc o).drew.heap.size = w.heap.size + 1 := by
    show ((w.setCell ⟨b, 1, none⟩ (.int .i64 n')).heap.push o).size = _
    rw [Array.size_push, size_setCell]
  have hold : ∀ k, k < w.heap.size → ((w.setCell ⟨b, 1, none⟩ (.int .i64 n')).alloc o).drew.heap[k]? = (w.setCell ⟨b, 1, none⟩ (.int .i64 n')).heap[k]? := fun k hk => Below.heap_alloc _ _ _ (by rw [size_setCell]; exact hk)
  refine ⟨heap_setBlock_at _ (by rw [hsz]; omega), ?_, ⟨rfl, rfl, rfl, by rw [size_setBlock, hsz]; omega, fun k hk hn => ?_⟩⟩
  · rw [heap_setBlock_ne _ (Ne.symm hne), hold _ hlt, heap_setCell_at hb]
    rfl
  · rw [heap_setBlock_ne _ (fun e => hn (Or.inl e)), hold _ hk, heap_setCell_ne _ (fun e => hn (Or.inr e))]

section
set_option maxHeartbeats 1000000
theorem put_any {w : World} {d m b : Nat} {dd xd s : ByteArray} {dn n : Nat} {xm : Option Nat} {l : List (ByteArray × Nat)} (hdir : w.heap[d]? = some (thingO dd dn (some m))) (hm : MapAt w m l) (hb : w.heap[b]? = some (thingO xd n xm)) (hn : n ≤ 1000000) :
    Calls Tryz.prog 50 #[.agg #[ptr d, .string s], ptr b] w fun e w' => e = .returned (.tuple #[]) ∧ (∃ o', IsMap o' (setM l s b) ∧ w'.heap[m]? = some o') ∧ w'.heap[b]? = some (thingO xd (n + 1) xm) ∧ Turn (fun k => k = m ∨ k = b) w w' := by
  have c1 : w.cell? ⟨b, 1, none⟩ = some (.int .i64 n) := cell_of_heap hb rfl
  have f1 : w.frozen? ⟨b, 1, none⟩ = false := free_of_heap hb
  have c2 : w.cell? ⟨d, 2, none⟩ = some (.map (some m)) := cell_of_heap hdir rfl
  have hlt : b < w.heap.size := (Array.getElem?_eq_some_iff.1 hb).1
  have hlt2 : d < w.heap.size := (Array.getElem?_eq_some_iff.1 hdir).1
  unfold ptr
  go_enter Tryz.func50, Tryz.ntmps50
  go_wp2
  generalize hW : (w.setCell ⟨b, 1, none⟩ (.int .i64 ((n : Int) + 1))).alloc (.cells #[.pointer (some ⟨d, 0, none⟩), .string s] 90) = W
  have k0 : W.cell? ⟨w.heap.size, 0, none⟩ = some (.pointer (some ⟨d, 0, none⟩)) := by
    rw [← hW, World.cell?_alloc_at _ _ _ _ (by simp)]; rfl
  have k1 : W.cell? ⟨w.heap.size, 1, none⟩ = some (.string s) := by
    rw [← hW, World.cell?_alloc_at _ _ _ _ (by simp)]; rfl
  have hold : ∀ k, k < w.heap.size → W.heap[k]? = (w.setCell ⟨b, 1, none⟩ (.int .i64 ((n : Int) + 1))).heap[k]? := fun k hk => by
    rw [← hW]; exact Below.heap_alloc _ _ _ (by rw [size_setCell]; exact hk)
  have hWm : MapAt W m l := hm.same (fun o ho => by rw [hold _ hm.lt, heap_setCell_ne _ (hm.ne_cells hb)]; exact ho)
  have k2 : W.cell? ⟨d, 2, none⟩ = some (.map (some m)) := by
    by_cases hdb : d = b
    · subst hdb
      refine cell_of_heap (cs := #[.string dd, .int .i64 ((n : Int) + 1), .map (some m)]) (e := 57) (fr := (0, 0)) ?_ rfl
      rw [hold _ hlt, heap_setCell_at hdir]
      rfl
    · refine cell_of_heap (cs := #[.string dd, .int .i64 dn, .map (some m)]) (e := 57) (fr := (0, 0)) ?_ rfl
      rw [hold _ hlt2, heap_setCell_ne _ hdb]
      exact hdir
  have HT := Lib.hid (turned_links (n' := n + 1) hm hb (.cells #[.pointer (some ⟨d, 0, none⟩), .string s] 90))
  obtain ⟨o', hrun, ho'⟩ := run_update_ptr (P := Tryz.prog) (w := W.drew) (T := 55) (K := 9) (E := 54) (m := m) (l := l) ht_map Tryz.underlying9 (show MapAt W.drew m l from hWm) s b
  unfold ptr at hrun
  have HW := Lib.hid hW
  clear hW c1 f1 c2 hWm hdir hm hb hold
  go_region
  all_goals go_end0
  have h := HT.out o' (.int .i64 ((n : Int) + 1)) rfl
  rw [HW.out] at h
  exact ⟨rfl, ⟨o', ho', h.1⟩, h.2.1, h.2.2⟩

/-- is, of memory alone. -/
theorem is_heap {w : World} {d m : Nat} {dd : ByteArray} {dn : Nat} {l : List (ByteArray × Nat)} (hdir : w.heap[d]? = some (thingO dd dn (some m))) (hm : MapAt w m l) (s : ByteArray) :
    Calls Tryz.prog 49 #[.agg #[ptr d, .string s]] w fun e w' => e = .returned (ptrO (getM l s)) ∧ ∃ n, w' = (w.alloc (.cells #[ptr d, .string s] 90)).drewN n := by
  have hb := (Below.refl w.heap.size w).alloc (Nat.le_refl _) (.cells #[ptr d, .string s] 90)
  have c2 : (w.alloc (.cells #[ptr d, .string s] 90)).cell? ⟨d, 2, none⟩ = some (.map (some m)) := cell_of_heap (heap_below hb _ _ hdir) rfl
  have hm1 : MapAt (w.alloc (.cells #[ptr d, .string s] 90)) m l := hm.same (heap_below hb _)
  have hl := fun n => run_lookup_ptr (P := Tryz.prog) (w := (w.alloc (.cells #[ptr d, .string s] 90)).drewN n) (T := 55) (K := 9) (E := 54) (m := m) (l := l) ht_map Tryz.underlying9 (zero_ptr _) (show MapAt ((w.alloc (.cells #[ptr d, .string s] 90)).drewN n) m l from hm1) s
  obtain ⟨r, hr⟩ : ∃ r, getM l s = r := ⟨_, rfl⟩
  rw [hr] at hl ⊢
  clear hdir hm hm1 hb hr
  unfold ptr at c2 hl ⊢
  go_enter Tryz.func49, Tryz.ntmps49
  go_wp2
  go_quiet (fail)
  go_wp2
  go_ret
  exact ⟨rfl, _, rfl⟩

theorem away_any {w : World} {d m b : Nat} {dd xd s : ByteArray} {dn n : Nat} {xm : Option Nat} {l : List (ByteArray × Nat)} (hdir : w.heap[d]? = some (thingO dd dn (some m))) (hm : MapAt w m l) (hg : getM l s = some b) (hb : w.heap[b]? = some (thingO xd n xm)) (hn : n ≤ 1000000) (hn1 : 1 ≤ n) :
    Calls Tryz.prog 52 #[.agg #[ptr d, .string s]] w fun e w' => e = .returned (.tuple #[]) ∧ (∃ o', IsMap o' (delM l s) ∧ w'.heap[m]? = some o') ∧ w'.heap[b]? = some (thingO xd (n - 1) xm) ∧ Turn (fun k => k = m ∨ k = b) w w' := by
  have hlt : b < w.heap.size := (Array.getElem?_eq_some_iff.1 hb).1
  have hlt2 : d < w.heap.size := (Array.getElem?_eq_some_iff.1 hdir).1
  have hb0 := (Below.refl w.heap.size w).alloc (Nat.le_refl _) (.cells #[ptr d, .string s] 90)
  have HD := Lib.hid (heap_below hb0 _ _ hdir)
  have HM : Hid (MapAt (w.alloc (.cells #[ptr d, .string s] 90)) m l) := hm.same (heap_below hb0 _)
  have HG := Lib.hid hg
  have HB := Lib.hid hb
  have HD0 := Lib.hid hdir
  have HM0 := Lib.hid hm
  clear hdir hm hg hb hb0
  unfold ptr at HD HM ⊢
  go_enter Tryz.func52, Tryz.ntmps52
  go_wp2_with fail
  refine (is_heap HD.out HM.out s).mono ?_
  rintro e w1 ⟨rfl, q, hw1⟩
  have B1 : Below (w.alloc (.cells #[.pointer (some ⟨d, 0, none⟩), .string s] 90)).heap.size (w.alloc (.cells #[.pointer (some ⟨d, 0, none⟩), .string s] 90)) w1 := by
    rw [hw1]
    exact below_drewN ((Below.refl _ _).alloc (Nat.le_refl _) _) _
  have B0 := (Below.refl w.heap.size w).alloc (Nat.le_refl _) (.cells #[.pointer (some ⟨d, 0, none⟩), .string s] 90)
  have B2 := Lib.hid (below_next B0 B1)
  have hb := heap_below B2.out _ _ HB.out
  have hd := heap_below B2.out _ _ HD0.out
  have hm : MapAt w1 m l := (HM0.out).same (heap_below B2.out _)
  have hp : w1.heap[w.heap.size]? = some (.cells #[.pointer (some ⟨d, 0, none⟩), .string s] 90 (0, 0)) := heap_below B1 _ _ (heap_alloc_new w _)
  have c1 : w1.cell? ⟨b, 1, none⟩ = some (.int .i64 n) := cell_of_heap hb rfl
  have f1 : w1.frozen? ⟨b, 1, none⟩ = false := free_of_heap hb
  have HW1 := Lib.hid hw1
  have Hb := Lib.hid hb
  have Hd := Lib.hid hd
  have Hm := Lib.hid hm
  have Hp := Lib.hid hp
  clear hw1 B1 B0 hb hd hm hp HD HM HB HD0 HM0
  rw [HG.out]
  unfold ptrO ptr
  go_wp2
  generalize hW : w1.setCell ⟨b, 1, none⟩ (.int .i64 ((n : Int) - 1)) = W
  have hWm : MapAt W m l := Hm.out.same (fun o ho => by rw [← hW, heap_setCell_ne _ (Hm.out.ne_cells Hb.out)]; exact ho)
  have hpb : w.heap.size ≠ b := by omega
  have hWp : W.heap[w.heap.size]? = some (.cells #[.pointer (some ⟨d, 0, none⟩), .string s] 90 (0, 0)) := by rw [← hW, heap_setCell_ne _ hpb]; exact Hp.out
  have k0 : W.cell? ⟨w.heap.size, 0, none⟩ = some (.pointer (some ⟨d, 0, none⟩)) := cell_of_heap hWp rfl
  have k1 : W.cell? ⟨w.heap.size, 1, none⟩ = some (.string s) := cell_of_heap hWp rfl
  have k2 : W.cell? ⟨d, 2, none⟩ = some (.map (some m)) := by
    by_cases hdb : d = b
    · subst hdb
      refine cell_of_heap (cs := #[.string dd, .int .i64 ((n : Int) - 1), .map (some m)]) (e := 57) (fr := (0, 0)) ?_ rfl
      rw [← hW, heap_setCell_at Hd.out]
      rfl
    · refine cell_of_heap (cs := #[.string dd, .int .i64 dn, .map (some m)]) (e := 57) (fr := (0, 0)) ?_ rfl
      rw [← hW, heap_setCell_ne _ hdb]
      exact Hd.out
  obtain ⟨o', hrun, ho'⟩ := run_delete_ptr (P := Tryz.prog) (w := W.drew) (T := 55) (K := 9) (E := 54) (m := m) (l := l) (ty := 0) ht_map Tryz.underlying9 (show MapAt W.drew m l from hWm) s
  have hfin : (ChangeMaps.setBlock W.drew m o').heap[m]? = some o' ∧ (ChangeMaps.setBlock W.drew m o').heap[b]? = some (thingO xd (n - 1) xm) ∧ Turn (fun k => k = m ∨ k = b) w1 (ChangeMaps.setBlock W.drew m o') := by
    have hne := Hm.out.ne_cells Hb.out
    have hml := Hm.out.lt
    have hsz : W.heap.size = w1.heap.size := by rw [← hW, size_setCell]
    refine ⟨heap_setBlock_at _ (by show m < W.heap.size; omega), ?_, ⟨by rw [← hW]; rfl, by rw [← hW]; rfl, by rw [← hW]; rfl, by rw [size_setBlock]; show _ ≤ W.heap.size; omega, fun k hk hn => ?_⟩⟩
    · rw [heap_setBlock_ne _ (Ne.symm hne)]
      show W.heap[b]? = _
      rw [← hW, heap_setCell_at Hb.out, show ((n : Int) - 1) = ((n - 1 : Nat) : Int) by omega]
      rfl
    · rw [heap_setBlock_ne _ (fun e => hn (Or.inl e))]
      show W.heap[k]? = _
      rw [← hW, heap_setCell_ne _ (fun e => hn (Or.inr e))]
  have HF := Lib.hid hfin
  have HW := Lib.hid hW
  clear hW c1 f1 hWm hWp hfin
  go_region
  all_goals go_end0
  exact ⟨rfl, ⟨o', ho', HF.out.1⟩, HF.out.2.1, (Turn.of_below B2.out).trans HF.out.2.2 (fun _ _ h => h) (fun _ _ h => h)⟩
end
end Go.Proofs.YtcgpmnlondnbhaaGreatDoor

namespace Go.Proofs.YtcgpmnlondnbhaaGreatDoor
open Go Go.RowKit Txt Sp

/-- Behind a change: the tree lies there still, and nothing but it has turned. -/
def After (w : World) (B : Nat) (t : Sp.Tree) (φ μ : Nat → Nat) (w' : World) (t' : Sp.Tree) : Prop :=
  ∃ φ' μ', Rep w' B t' φ' μ' ∧ Turn (Rep.dom B t φ μ) w w' ∧ ∀ k, Rep.dom B t' φ' μ' k → Rep.dom B t φ μ k ∨ w.heap.size ≤ k

section
variable {w w' : World} {B : Nat} {t : Sp.Tree} {φ μ : Nat → Nat}
theorem After.same (hR : Rep w B t φ μ) (hb : Below w.heap.size w w') : After w B t φ μ w' t := ⟨φ, μ, hR.below hb, Turn.of_below hb, fun _ h => Or.inl h⟩
theorem dom_thing {i : Nat} (h : t.has i) : Rep.dom B t φ μ (φ i) := Or.inr ⟨i, h, Or.inl rfl⟩
theorem dom_map {i : Nat} (h : t.has i) (hd : t.isDir i = true) : Rep.dom B t φ μ (μ i) := Or.inr ⟨i, h, Or.inr ⟨hd, rfl⟩⟩
end

theorem make_err {t : Sp.Tree} {p : ByteArray} {dir : Bool} {c : Int} (h : t.dirC p = c) (hc : c ≠ 0) : t.make p dir = (t, c) := by
  unfold Sp.Tree.make; rw [h, if_neg hc]
theorem make_exist {t : Sp.Tree} {p : ByteArray} {dir : Bool} {j : Nat} (h : t.dirC p = 0) (hf : t.find (full p) = some j) : t.make p dir = (t, 101) := by
  unfold Sp.Tree.make; rw [h, if_pos rfl, hf]; rfl
theorem make_ok {t : Sp.Tree} {p : ByteArray} {dir : Bool} (h : t.dirC p = 0) (hf : t.find (full p) = none) : t.make p dir = (t.grown (full p) dir, 0) := by
  unfold Sp.Tree.make; rw [h, if_pos rfl, hf]; rfl

section
set_option maxHeartbeats 1000000

/-- create: b is the new thing's block; mb, of a directory, its map's. -/
theorem create_any {w : World} {B : Nat} {t : Sp.Tree} {φ μ : Nat → Nat} (hR : Rep w B t φ μ) (hok : t.Ok) (p : ByteArray) (hm : MaxOk w) (hs : p.size ≤ 4000000000) (dir : Bool) {b mb : Nat}
    (hbw : w.heap[b]? = some (thingO (ofL []) 0 (if dir = true then some mb else none))) (hbφ : ∀ j, t.has j → φ j ≠ b) (hbμ : ∀ j, t.has j → t.isDir j = true → μ j ≠ mb) (hmb : dir = true → MapAt w mb []) :
    Calls Tryz.prog 28 #[ptr B, .string p, ptr b] w fun e w' => e = .returned (.int .i64 (t.make p dir).2) ∧
      ∃ φ' μ', Rep w' B (t.make p dir).1 φ' μ' ∧ Turn (fun k => Rep.dom B t φ μ k ∨ k = b) w w' ∧ ∀ k, Rep.dom B (t.make p dir).1 φ' μ' k → Rep.dom B t φ μ k ∨ k = b ∨ (dir = true ∧ k = mb) := by
  have HR := Lib.hid hR
  have HOK := Lib.hid hok
  have HBW := Lib.hid hbw
  have Hφ := Lib.hid hbφ
  have Hμ := Lib.hid hbμ
  have HMB := Lib.hid hmb
  obtain ⟨c, hc⟩ : ∃ c, t.dirC p = c := ⟨_, rfl⟩
  have HC := Lib.hid hc
  clear hR hok hbw hbφ hbμ hmb
  by_cases h0 : c = 0
  · subst h0
    clear hc
    go_enter Tryz.func28, Tryz.ntmps28
    go_wp2_with fail
    refine (place_any HR.out HOK.out p hm hs).mono ?_
    rintro e w1 ⟨⟨v, s, rfl, hpl⟩, hb⟩
    obtain ⟨l, i, h1, h2, h3, h4, h5, rfl⟩ := hpl HC.out
    rw [HC.out]
    have HB := Lib.hid hb
    have HR1 := Lib.hid (HR.out.below hb)
    have H2 := Lib.hid h2
    have H3 := Lib.hid h3
    have H4 := Lib.hid h4
    have H5 := Lib.hid h5
    clear hpl hb h1 h2 h3 h4 h5
    go_wp2_with fail
    refine (is_any (HR1.out.below ((Below.refl _ _).alloc (Nat.le_refl _) _)) H3.out H4.out s).mono ?_
    rintro e w2 ⟨rfl, hb2⟩
    have hb12 := below_next ((Below.refl w1.heap.size w1).alloc (Nat.le_refl _) _) hb2
    have hbl : w2.heap[w1.heap.size]? = some (.cells #[ptr (φ i), .string s] 90 (0, 0)) := heap_below hb2 _ _ (heap_alloc_new w1 _)
    have c0 : w2.cell? ⟨w1.heap.size, 0, none⟩ = some (ptr (φ i)) := cell_of_heap hbl rfl
    have c1 : w2.cell? ⟨w1.heap.size, 1, none⟩ = some (.string s) := cell_of_heap hbl rfl
    have HB2 := Lib.hid (below_next HB.out hb12)
    have HR2 := Lib.hid (HR.out.below HB2.out)
    cases hf : t.find (l ++ [s]) with
    | some j =>
      have HM := Lib.hid (make_exist (dir := dir) HC.out (by rw [H2.out]; exact hf))
      clear hb2 hb12 hbl hf
      simp only [Option.map_some, ptrO, ptr]
      go_wp2
      go_ret
      rw [HM.out]
      exact ⟨rfl, φ, μ, HR2.out, Turn.of_below HB2.out, fun k h => Or.inl h⟩
    | none =>
      have HM := Lib.hid (make_ok (dir := dir) HC.out (by rw [H2.out]; exact hf))
      have HF := Lib.hid hf
      obtain ⟨hd1, l0, hl0, hl1⟩ := HR2.out.dir i l H3.out H4.out
      have HD1 := Lib.hid hd1
      have HL0 := Lib.hid hl0
      clear hb2 hb12 hbl hf hd1 hl0 hl1
      simp only [Option.map_none, ptrO]
      unfold ptr at c0
      go_wp2_with fail
      refine (put_any HD1.out HL0.out (heap_below HB2.out _ _ HBW.out) (by decide)).mono ?_
      rintro e w3 ⟨rfl, ⟨o', ho', hmo⟩, hbo, hT⟩
      go_wp2
      go_ret
      rw [HM.out]
      have hi := has_idOf HOK.out H3.out
      have hs2 : ∀ (k : Nat) (o : Obj), w2.heap[k]? = some o → k ≠ μ i → k ≠ b → w3.heap[k]? = some o := fun k o ho h1 h2 => hT.heap ho (fun h => h.elim h1 h2)
      have hmb3 : dir = true → MapAt w3 mb [] := fun hd => by
        have hm2 := (HMB.out hd).same (heap_below HB2.out mb)
        exact hm2.same (fun o ho => hs2 _ _ ho (Ne.symm (Hμ.out i hi H4.out)) (hm2.ne_cells (heap_below HB2.out _ _ HBW.out)))
      have hRG := HR2.out.grown HOK.out H3.out H4.out H5.out HF.out HL0.out (heap_below HB2.out _ _ HBW.out) Hφ.out Hμ.out hs2 hbo hmo ho' hmb3
      rw [← H2.out] at hRG
      refine ⟨rfl, _, _, hRG, (Turn.of_below HB2.out).trans hT (K1 := fun k => Rep.dom B t φ μ k ∨ k = b) (fun _ _ h => h) (fun k _ h => ?_), ?_⟩
      · rcases h with rfl | rfl
        · exact Or.inl (dom_map hi H4.out)
        · exact Or.inr rfl
      · rintro k (rfl | ⟨j, ⟨bb, d, hj⟩, h⟩)
        · exact Or.inl (Or.inl rfl)
        · rcases List.mem_append.1 hj with hj' | hj'
          · have hjh : t.has j := ⟨_, _, hj'⟩
            have hne : j ≠ t.many + 1 := fun e => fresh_not HOK.out (e ▸ hj')
            rw [upd_ne hne, upd_ne hne, grown_isDir HOK.out, if_neg hne] at h
            rcases h with rfl | ⟨hd, rfl⟩
            · exact Or.inl (dom_thing hjh)
            · exact Or.inl (dom_map hjh hd)
          · cases List.mem_singleton.1 hj'
            rw [upd_at, upd_at, grown_isDir HOK.out, if_pos rfl] at h
            rcases h with rfl | ⟨hd, rfl⟩
            · exact Or.inr (Or.inl rfl)
            · exact Or.inr (Or.inr ⟨hd, rfl⟩)
  · have HM := Lib.hid (make_err (dir := dir) hc h0)
    have hc0 : (c == 0) = false := beq_eq_false_iff_ne.2 h0
    clear hc h0
    go_enter Tryz.func28, Tryz.ntmps28
    go_wp2_with fail
    refine (place_any HR.out HOK.out p hm hs).mono ?_
    rintro e w1 ⟨⟨v, s, rfl, hpl⟩, hb⟩
    rw [HC.out]
    have HB := Lib.hid hb
    clear hpl hb
    go_wp2
    go_ret
    rw [HM.out]
    have HB2 := HB.out.alloc HB.out.size (.cells #[.pointer v, .string s] 90)
    exact ⟨rfl, φ, μ, HR.out.below HB2, Turn.of_below HB2, fun k h => Or.inl h⟩
end
end Go.Proofs.YtcgpmnlondnbhaaGreatDoor

namespace Go.Proofs.YtcgpmnlondnbhaaGreatDoor
open Go Go.RowKit Txt Sp

theorem remove_err {t : Sp.Tree} {p : ByteArray} {dir : Bool} {c : Int} (h : t.dirC p = c) (hc : c ≠ 0) : t.remove p dir = (t, c) := by
  unfold Sp.Tree.remove; rw [h, if_neg hc]
theorem remove_none {t : Sp.Tree} {p : ByteArray} {dir : Bool} (h : t.dirC p = 0) (hf : t.find (full p) = none) : t.remove p dir = (t, 100) := by
  unfold Sp.Tree.remove; rw [h, if_pos rfl, hf]
theorem remove_isdir {t : Sp.Tree} {p : ByteArray} {j : Nat} (h : t.dirC p = 0) (hf : t.find (full p) = some j) (hd : t.isDir j = true) : t.remove p false = (t, 102) := by
  unfold Sp.Tree.remove; rw [h, if_pos rfl, hf]; simp [hd]
theorem remove_isfile {t : Sp.Tree} {p : ByteArray} {j : Nat} (h : t.dirC p = 0) (hf : t.find (full p) = some j) (hd : t.isDir j = false) : t.remove p true = (t, 103) := by
  unfold Sp.Tree.remove; rw [h, if_pos rfl, hf]; simp [hd]
theorem remove_full {t : Sp.Tree} {p : ByteArray} {j : Nat} (h : t.dirC p = 0) (hf : t.find (full p) = some j) (hd : t.isDir j = true) (hk : t.kidsL (full p) ≠ []) : t.remove p true = (t, 104) := by
  unfold Sp.Tree.remove; rw [h, if_pos rfl, hf]; simp [hd, hk]
theorem remove_file {t : Sp.Tree} {p : ByteArray} {j : Nat} (h : t.dirC p = 0) (hf : t.find (full p) = some j) (hd : t.isDir j = false) : t.remove p false = (t.forget (full p), 0) := by
  unfold Sp.Tree.remove; rw [h, if_pos rfl, hf]; simp [hd]
theorem remove_dir {t : Sp.Tree} {p : ByteArray} {j : Nat} (h : t.dirC p = 0) (hf : t.find (full p) = some j) (hd : t.isDir j = true) (hk : t.kidsL (full p) = []) : t.remove p true = (t.forget (full p), 0) := by
  unfold Sp.Tree.remove; rw [h, if_pos rfl, hf]; simp [hd, hk]

section
variable {w w' : World} {B : Nat} {t : Sp.Tree} {φ μ : Nat → Nat}
theorem dom_forget (hok : t.Ok) {p : List ByteArray} {i : Nat} (hf : t.find p = some i) (hbelow : ∀ s j, (p ++ [s], j) ∉ t.names) {k : Nat} (h : Rep.dom B (t.forget p) φ μ k) : Rep.dom B t φ μ k := by
  rcases h with rfl | ⟨j, ⟨b, d, hj⟩, h⟩
  · exact Or.inl rfl
  · have hj' := ((forget_thing hok hf).1 hj).1
    refine Or.inr ⟨j, ⟨b, d, hj'⟩, ?_⟩
    rw [isDir_of (hok.forget hf hbelow) hj] at h
    rw [isDir_of hok hj']
    exact h
end

section
set_option maxHeartbeats 1000000
theorem len0 : Tryz.prog.underlying 55 = some (.map (Tryz.prog.mapKeyOf 55) (Tryz.prog.mapElemOf 55)) := by kernel_rfl

theorem nil_len (w : World) : (Builtin.len_ #[55] 3 #[.map none]).run Tryz.prog w = .ok (.int .i64 0) w := by
  rw [run_len_nilMap w 55 3 len0]
  rfl

/-- What of remove is said. -/
def RemovePost (w : World) (B : Nat) (t : Sp.Tree) (φ μ : Nat → Nat) (p : ByteArray) (dir : Bool) (e : Ending) (w' : World) : Prop :=
  e = .returned (.int .i64 (t.remove p dir).2) ∧ Rep w' B (t.remove p dir).1 φ μ ∧ Turn (Rep.dom B t φ μ) w w' ∧ ∀ k, Rep.dom B (t.remove p dir).1 φ μ k → Rep.dom B t φ μ k
theorem RemovePost.same {w w' : World} {B : Nat} {t : Sp.Tree} {φ μ : Nat → Nat} {p : ByteArray} {dir : Bool} {c : Int} (h : t.remove p dir = (t, c)) (hR : Rep w B t φ μ) (hb : Below w.heap.size w w') : RemovePost w B t φ μ p dir (.returned (.int .i64 c)) w' := by
  unfold RemovePost
  rw [h]
  exact ⟨rfl, hR.below hb, Turn.of_below hb, fun _ h => h⟩

theorem RemovePost.done {w w2 w3 : World} {B : Nat} {t : Sp.Tree} {φ μ : Nat → Nat} {p : ByteArray} {dir : Bool} (hM : t.remove p dir = (t.forget (full p), 0)) {l : List ByteArray} {s : ByteArray} (hfull : full p = l ++ [s]) (hok : t.Ok) (hB : Below w.heap.size w w2) (hR2 : Rep w2 B t φ μ)
    {i j : Nat} (hl : t.idOf l = some i) (hd : t.isDir i = true) (hf : t.find (l ++ [s]) = some j) (hk : t.isDir j = true → t.kidsL (l ++ [s]) = []) {l1 : List (ByteArray × Nat)} (hl1 : MapAt w2 (μ i) l1) {d : ByteArray} {m : Option Nat} {o' : Obj}
    (hwas : w2.heap[φ j]? = some (thingO d (t.links j) m)) (ho' : IsMap o' (delM l1 s)) (hmo : w3.heap[μ i]? = some o') (hbo : w3.heap[φ j]? = some (thingO d (t.links j - 1) m)) (hT : Turn (fun k => k = μ i ∨ k = φ j) w2 w3) :
    RemovePost w B t φ μ p dir (.returned (.int .i64 0)) w3 := by
  have hbelow := nothing_below hok hf hk
  have hi := has_idOf hok hl
  have hj := has_idOf hok (find_idOf hok hf)
  have hrep := hR2.forget hok hl hd hf hbelow hl1 (fun b o ho h1 h2 => hT.heap ho (fun h => h.elim h1 h2)) hwas hbo hmo ho'
  unfold RemovePost
  rw [hM, hfull]
  refine ⟨rfl, hrep, (Turn.of_below hB).trans hT (K1 := Rep.dom B t φ μ) (fun _ _ h => h) (fun k _ h => ?_), fun k h => dom_forget hok hf hbelow h⟩
  rcases h with rfl | rfl
  · exact dom_map hi hd
  · exact dom_thing hj

theorem remove_any {w : World} {B : Nat} {t : Sp.Tree} {φ μ : Nat → Nat} (hR : Rep w B t φ μ) (hok : t.Ok) (p : ByteArray) (hm : MaxOk w) (hs : p.size ≤ 4000000000) (dir : Bool) (hlinks : ∀ i, t.links i ≤ 1000000) (hk : ∀ q, (t.kidsL q).length ≤ 1000000) :
    Calls Tryz.prog 30 #[ptr B, .string p, .bool dir] w (RemovePost w B t φ μ p dir) := by
  have m1 := fun (r : Option Nat) (w : World) => run_eql_map_nil (P := Tryz.prog) w 55 _ _ r ht_map
  have m2 := fun (r : Option Nat) (w : World) => run_neq_map_nil (P := Tryz.prog) w 55 _ _ r ht_map
  have l0 := nil_len
  have HR := Lib.hid hR
  have HOK := Lib.hid hok
  have HL := Lib.hid hlinks
  have HK := Lib.hid hk
  obtain ⟨c, hc⟩ : ∃ c, t.dirC p = c := ⟨_, rfl⟩
  have HC := Lib.hid hc
  clear hR hok hlinks hk
  by_cases h0 : c = 0
  · subst h0
    clear hc
    go_enter Tryz.func30, Tryz.ntmps30
    go_wp2_with fail
    refine (place_any HR.out HOK.out p hm hs).mono ?_
    rintro e w1 ⟨⟨v, s, rfl, hpl⟩, hb⟩
    obtain ⟨l, i, h1, h2, h3, h4, h5, rfl⟩ := hpl HC.out
    rw [HC.out]
    have HB := Lib.hid hb
    have HR1 := Lib.hid (HR.out.below hb)
    have H2 := Lib.hid h2
    have H3 := Lib.hid h3
    have H4 := Lib.hid h4
    clear hpl hb h1 h2 h3 h4 h5
    go_wp2_with fail
    refine (is_any (HR1.out.below ((Below.refl _ _).alloc (Nat.le_refl _) _)) H3.out H4.out s).mono ?_
    rintro e w2 ⟨rfl, hb2⟩
    have hb12 := below_next ((Below.refl w1.heap.size w1).alloc (Nat.le_refl _) _) hb2
    have hbl : w2.heap[w1.heap.size]? = some (.cells #[ptr (φ i), .string s] 90 (0, 0)) := heap_below hb2 _ _ (heap_alloc_new w1 _)
    have c0 : w2.cell? ⟨w1.heap.size, 0, none⟩ = some (ptr (φ i)) := cell_of_heap hbl rfl
    have c1 : w2.cell? ⟨w1.heap.size, 1, none⟩ = some (.string s) := cell_of_heap hbl rfl
    have HB2 := Lib.hid (below_next HB.out hb12)
    have HR2 := Lib.hid (HR.out.below HB2.out)
    cases hf : t.find (l ++ [s]) with
    | none =>
      have HM := Lib.hid (remove_none (dir := dir) HC.out (by rw [H2.out]; exact hf))
      clear hb2 hb12 hbl hf
      simp only [Option.map_none, ptrO]
      go_wp2
      go_ret
      exact RemovePost.same HM.out HR.out HB2.out
    | some j =>
      have HF := Lib.hid hf
      have HJ : Hid (t.idOf (l ++ [s]) = some j) := find_idOf HOK.out hf
      obtain ⟨hd1, l1, hl1, _⟩ := HR2.out.dir i l H3.out H4.out
      have HD1 := Lib.hid hd1
      have HL1 := Lib.hid hl1
      have hget : Hid (getM l1 s = some (φ j)) := by
        show getM l1 s = some (φ j)
        rw [HR2.out.entries H3.out H4.out hl1, hf]; rfl
      clear hb2 hb12 hbl hf hd1 hl1
      simp only [Option.map_some, ptrO, ptr]
      unfold ptr at c0
      cases hd : t.isDir j with
      | true =>
        have c2 := HR2.out.dirCell HJ.out hd
        have Hd := Lib.hid hd
        cases dir with
        | false =>
          have HM := Lib.hid (remove_isdir HC.out (by rw [H2.out]; exact HF.out) hd)
          clear hd
          go_wp2
          go_ret
          exact RemovePost.same HM.out HR.out HB2.out
        | true =>
          obtain ⟨hdj, lj, hlj, _⟩ := HR2.out.dir j _ HJ.out hd
          have HLen := Lib.hid (HR2.out.len HOK.out HJ.out hd hlj)
          have hlen := run_len_ptr (P := Tryz.prog) (ty := 3) len0 hlj
          obtain ⟨n, hn⟩ : ∃ n, lj.length = n := ⟨_, rfl⟩
          have HN := Lib.hid hn
          have hnb : n ≤ 1000000 := by rw [← hn, HLen.out]; exact HK.out _
          rw [hn] at hlen
          clear hd hn
          by_cases hn0 : n = 0
          · have HKE : Hid (t.kidsL (l ++ [s]) = []) := List.length_eq_zero_iff.1 (by rw [← HLen.out, HN.out]; exact hn0)
            have HM : Hid (t.remove p true = (t.forget (full p), 0)) := remove_dir HC.out (by rw [H2.out]; exact HF.out) Hd.out (by rw [H2.out]; exact HKE.out)
            have HTh := Lib.hid hdj
            subst hn0
            clear hlj hdj
            go_wp2_with fail
            refine (away_any HD1.out HL1.out hget.out HTh.out (HL.out j) (links_pos HOK.out HF.out)).mono ?_
            rintro e w3 ⟨rfl, ⟨o', ho', hmo⟩, hbo, hT⟩
            go_wp2
            go_ret
            exact RemovePost.done HM.out H2.out HOK.out HB2.out HR2.out H3.out H4.out HF.out (fun _ => HKE.out) HL1.out HTh.out ho' hmo hbo hT
          · have HM : Hid (t.remove p true = (t, 104)) := remove_full HC.out (by rw [H2.out]; exact HF.out) Hd.out (by
              rw [H2.out]
              intro e
              have h1 := HLen.out
              rw [e, HN.out] at h1
              exact hn0 h1)
            have hpos : 0 < n := by omega
            clear hn0 hlj hdj
            go_wp2
            go_ret
            exact RemovePost.same HM.out HR.out HB2.out
      | false =>
        have c2 := HR2.out.fileCell HOK.out HJ.out hd
        have Hd := Lib.hid hd
        cases dir with
        | true =>
          have HM := Lib.hid (remove_isfile HC.out (by rw [H2.out]; exact HF.out) hd)
          clear hd
          go_wp2
          go_ret
          exact RemovePost.same HM.out HR.out HB2.out
        | false =>
          have HM := Lib.hid (remove_file HC.out (by rw [H2.out]; exact HF.out) hd)
          have hth := there_idOf HOK.out HJ.out
          rw [hd] at hth
          have HTh := Lib.hid (HR2.out.file j _ hth)
          clear hd hth
          go_wp2_with fail
          refine (away_any HD1.out HL1.out hget.out HTh.out (HL.out j) (links_pos HOK.out HF.out)).mono ?_
          rintro e w3 ⟨rfl, ⟨o', ho', hmo⟩, hbo, hT⟩
          go_wp2
          go_ret
          exact RemovePost.done HM.out H2.out HOK.out HB2.out HR2.out H3.out H4.out HF.out (fun h => by rw [Hd.out] at h; cases h) HL1.out HTh.out ho' hmo hbo hT
  · have HM := Lib.hid (remove_err (dir := dir) hc h0)
    have hc0 : (c == 0) = false := beq_eq_false_iff_ne.2 h0
    clear hc h0
    go_enter Tryz.func30, Tryz.ntmps30
    go_wp2_with fail
    refine (place_any HR.out HOK.out p hm hs).mono ?_
    rintro e w1 ⟨⟨v, s, rfl, hpl⟩, hb⟩
    rw [HC.out]
    have HB := Lib.hid hb
    clear hpl hb
    go_wp2
    go_ret
    exact RemovePost.same HM.out HR.out (HB.out.alloc HB.out.size _)
end
end Go.Proofs.YtcgpmnlondnbhaaGreatDoor
