/-
  How a tree of the program lies in memory; New; a walk.
-/
import Derived.Test.YtcgpmnlondnbhaaDoorMapAt
import Derived.Test.YtcgpmnlondnbhaaDoorSpLaws
import Derived.Test.YtcgpmnlondnbhaaDoorPaths
namespace Go.Proofs.YtcgpmnlondnbhaaDoor
open Go Go.RowKit Txt Sp

/-- A thing's block: its bytes, its links, its map. -/
def thingO (d : ByteArray) (n : Nat) (m : Option Nat) : Obj := .cells #[.string d, .int .i64 n, .map m] 66 (0, 0)
def treeO (b : Nat) : Obj := .cells #[ptr b] 68 (0, 0)

def Sp.Tree.has (t : Sp.Tree) (i : Nat) : Prop := ∃ b d, (i, b, d) ∈ t.things

/-- The tree t lies in memory: the block B holds it; φ: where its things lie, μ: where directories' maps lie. -/
structure Rep (w : World) (B : Nat) (t : Sp.Tree) (φ μ : Nat → Nat) : Prop where
  root : w.heap[B]? = some (treeO (φ 0))
  file : ∀ i d, (i, false, d) ∈ t.things → w.heap[φ i]? = some (thingO d (t.links i) none)
  dir : ∀ i p, t.idOf p = some i → t.isDir i = true → w.heap[φ i]? = some (thingO (ofL []) (t.links i) (some (μ i))) ∧ ∃ l, MapAt w (μ i) l ∧ ∀ s, getM l s = (t.find (p ++ [s])).map φ
  inj : ∀ i j, t.has i → t.has j → φ i = φ j → i = j
  injm : ∀ i j, t.has i → t.has j → t.isDir i = true → t.isDir j = true → μ i = μ j → i = j

/-- What of a world a tree takes up. -/
def Rep.dom (B : Nat) (t : Sp.Tree) (φ μ : Nat → Nat) (k : Nat) : Prop := k = B ∨ ∃ i, t.has i ∧ (k = φ i ∨ (t.isDir i = true ∧ k = μ i))

theorem cell_of_heap {w : World} {b k : Nat} {cs : Array Value} {e : TypeId} {fr : Nat × Nat} {v : Value} (h : w.heap[b]? = some (.cells cs e fr)) (hv : cs[k]? = some v) : w.cell? ⟨b, k, none⟩ = some v := by
  simp [World.cell?, h, hv]
theorem free_of_heap {w : World} {b k : Nat} {cs : Array Value} {e : TypeId} (h : w.heap[b]? = some (.cells cs e (0, 0))) : w.frozen? ⟨b, k, none⟩ = false := by
  simp [World.frozen?, h]

theorem Rep.rootCell {w : World} {B : Nat} {t : Sp.Tree} {φ μ : Nat → Nat} (h : Rep w B t φ μ) : w.cell? ⟨B, 0, none⟩ = some (ptr (φ 0)) := cell_of_heap h.root rfl
theorem Rep.dirCell {w : World} {B : Nat} {t : Sp.Tree} {φ μ : Nat → Nat} (h : Rep w B t φ μ) {i : Nat} {p : List ByteArray} (hp : t.idOf p = some i) (hd : t.isDir i = true) : w.cell? ⟨φ i, 2, none⟩ = some (.map (some (μ i))) := cell_of_heap (h.dir i p hp hd).1 rfl
theorem Rep.fileCell {w : World} {B : Nat} {t : Sp.Tree} {φ μ : Nat → Nat} (h : Rep w B t φ μ) (hok : t.Ok) {i : Nat} {p : List ByteArray} (hp : t.idOf p = some i) (hd : t.isDir i = false) : w.cell? ⟨φ i, 2, none⟩ = some (.map none) := by
  have := there_idOf hok hp
  rw [hd] at this
  exact cell_of_heap (h.file i _ this) rfl

theorem zero_ptr (w : World) : (zeroValue 63).run Tryd.prog w = .ok (.pointer none) w := by kernel_rfl
theorem ht_map : Tryd.prog.underlying 64 = some (.map 9 63) := Tryd.underlying64

/-- A name in a directory. -/
theorem Rep.look {w : World} {B : Nat} {t : Sp.Tree} {φ μ : Nat → Nat} (h : Rep w B t φ μ) {i : Nat} {p : List ByteArray} (hp : t.idOf p = some i) (hd : t.isDir i = true) (s : ByteArray) (n : Nat) :
    (Instr.lookup 64 (.map (some (μ i))) (.string s) false).run Tryd.prog (w.drewN n) = .ok (ptrO ((t.find (p ++ [s])).map φ)) (w.drewN n) := by
  obtain ⟨_, l, hm, hl⟩ := h.dir i p hp hd
  have h1 := run_lookup_ptr (P := Tryd.prog) (w := w.drewN n) (T := 64) (K := 9) (E := 63) (m := μ i) (l := l) ht_map Tryd.underlying9 (zero_ptr _) (show MapAt (w.drewN n) (μ i) l from hm) s
  rw [hl s] at h1
  exact h1

/-- What walk hands back: what names stand for, or nothing. -/
def thingV (φ : Nat → Nat) (r : Nat × Int) : Value := if r.2 = 0 then ptr (φ r.1) else .pointer none
theorem thingV_ok {φ : Nat → Nat} {r : Nat × Int} {i : Nat} (h : r = (i, 0)) : thingV φ r = ptr (φ i) := by subst h; rfl
theorem thingV_err {φ : Nat → Nat} {r : Nat × Int} {i : Nat} {c : Int} (h : r = (i, c)) (hc : c ≠ 0) : thingV φ r = .pointer none := by subst h; exact if_neg hc
def WalkPost (φ : Nat → Nat) (r : Nat × Int) (w : World) (e : Ending) (w' : World) : Prop :=
  e = .returned (.tuple #[thingV φ r, .int .i64 r.2]) ∧ w = w'

set_option maxHeartbeats 1000000 in
theorem twalk_any {w : World} {B : Nat} {t : Sp.Tree} {φ μ : Nat → Nat} (hR : Rep w B t φ μ) (hok : t.Ok) (v : Value) (l : List ByteArray) (ht : Texts w v l) (h8 : l.length ≤ 8) :
    Calls Tryd.prog 55 #[ptr B, v] w (WalkPost φ (t.walk [] l 0) w) := by
  obtain ⟨ad, n, cap, rfl, HN, hn8, HX⟩ := ht.open8 h8
  have HR := Lib.hid hR
  have HOK := Lib.hid hok
  have c0 := hR.rootCell
  have hz := zero_ptr
  have m1 := fun (r : Option Nat) (w : World) => run_eql_map_nil (P := Tryd.prog) w 64 _ _ r ht_map
  clear hR hok ht
  unfold ptr at c0 ⊢
  go_enter Tryd.func55, Tryd.ntmps55
  go_wp2
  go_loop [6, 15] (fun x i => ∃ k j : Nat, k ≤ n ∧ i = .int .i64 k ∧ x = .pointer (some ⟨φ j, 0, none⟩) ∧ t.walk (l.take k) (l.drop k) j = t.walk [] l 0 ∧ t.idOf (l.take k) = some j) (fun _ i => n - (intOf i).toNat)
  case atStart => exact ⟨0, 0, Nat.zero_le _, rfl, rfl, rfl, idOf_nil⟩
  case round =>
    obtain ⟨k, j, hk, rfl, rfl, hw, hid⟩ := hrel
    have HW := Lib.hid hw
    have HI := Lib.hid hid
    clear hw hid
    by_cases hlt : k < n
    · obtain ⟨b1, off, s, rfl, hb1, hx, hcx⟩ := HX.out k hlt
      have X := Lib.hid hx
      have HD : Hid (l.drop k = s :: l.drop (k + 1)) := by
        obtain ⟨h1, h2⟩ := List.getElem?_eq_some_iff.1 hx
        show l.drop k = s :: l.drop (k + 1)
        rw [List.drop_eq_getElem_cons h1, h2]
      have HT : Hid (l.take (k + 1) = l.take k ++ [s]) := take_snoc l k s hx
      clear hx HX
      cases hd : t.isDir j with
      | true =>
        have c2 := HR.out.dirCell HI.out hd
        have hl := HR.out.look HI.out hd s 0
        have HDir := Lib.hid hd
        rw [World.drewN_zero] at hl
        cases hf : t.find (l.take k ++ [s]) with
        | none =>
          rw [hf] at hl
          have HF : Hid (t.walk [] l 0 = (0, 100)) := by
            show t.walk [] l 0 = (0, 100)
            rw [← HW.out, HD.out]; unfold Tree.walk; rw [if_pos HDir.out, hf]
          clear hd hf
          simp only [Option.map_none, ptrO] at hl
          go_wp2
          go_ret2
          exact ⟨by rw [HF.out]; rfl, rfl⟩
        | some j' =>
          rw [hf] at hl
          have HF : Hid (t.walk (l.take (k + 1)) (l.drop (k + 1)) j' = t.walk [] l 0) := by
            show t.walk (l.take (k + 1)) (l.drop (k + 1)) j' = t.walk [] l 0
            rw [← HW.out, HD.out, HT.out]
            conv => rhs; unfold Tree.walk
            rw [if_pos HDir.out, hf]
          have HI2 : Hid (t.idOf (l.take (k + 1)) = some j') := by
            show t.idOf (l.take (k + 1)) = some j'
            rw [HT.out, idOf_snoc]; exact hf
          clear hd hf
          simp only [Option.map_some, ptrO, ptr] at hl
          go_wp2
          go_round
          case rel => exact ⟨k + 1, j', by omega, by go_num, rfl, HF.out, HI2.out⟩
          case measure => simp [intOf]; omega
      | false =>
        have c2 := HR.out.fileCell HOK.out HI.out hd
        have HF : Hid (t.walk [] l 0 = (0, 103)) := by
          show t.walk [] l 0 = (0, 103)
          rw [← HW.out, HD.out]; unfold Tree.walk; rw [if_neg (by rw [hd]; simp)]
        clear hd
        go_wp2
        go_ret2
        exact ⟨by rw [HF.out]; rfl, rfl⟩
    · have HF : Hid (t.walk [] l 0 = (j, 0)) := by
        show t.walk [] l 0 = (j, 0)
        rw [← HW.out, List.drop_of_length_le (by have := HN.out; omega)]; rfl
      go_wp2
      go_ret2
      exact ⟨by rw [HF.out]; rfl, rfl⟩
end Go.Proofs.YtcgpmnlondnbhaaDoor
