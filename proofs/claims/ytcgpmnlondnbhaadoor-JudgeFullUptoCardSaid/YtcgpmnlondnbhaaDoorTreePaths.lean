/-
  The tree's walks: paths.
-/
import Derived.Test.YtcgpmnlondnbhaaDoorTreeC
import Derived.Test.YtcgpmnlondnbhaaDoorPlainA
import Derived.Test.YtcgpmnlondnbhaaDoorRangeAt
import Derived.Maps.AppendAt
import Derived.Laws.IdiomRangeMap
namespace Go.Proofs.YtcgpmnlondnbhaaDoor
open Go Go.RowKit Txt Sp

/-- Behind paths: all paths at a thing and below it, in some order, in a slice of its own. -/
def PathsPost (w : World) (t : Sp.Tree) (p : List ByteArray) (i : Nat) (e : Ending) (w' : World) : Prop :=
  ∃ g cap L, e = .returned (.slice (some ⟨g, 0, none⟩) (List.length L) cap) ∧ w'.ownsRow w.heap.size 9 1 (.slice (some ⟨g, 0, none⟩) L.length cap) L.length (L.map Value.string) ∧ L.Perm (((p, i) :: belowL t p).map (shown t)) ∧ Below w.heap.size w w'

theorem add_empty (s : ByteArray) : s ++ (⟨#[]⟩ : ByteArray) = s := Txt.ext (by simp)
theorem owns_one (w : World) (s : ByteArray) : (w.alloc (.cells #[.string s] 9)).ownsRow w.heap.size 9 1 (.slice (some ⟨w.heap.size, 0, none⟩) 1 1) 1 [.string s] :=
  ⟨rfl, Or.inr ⟨w.heap.size, 1, _, rfl, Nat.le_refl _, heap_alloc_new w _, Nat.le_refl _, by decide, rfl, rfl⟩⟩

section
set_option maxHeartbeats 4000000
variable {B : Nat} {t : Sp.Tree} {φ μ : Nat → Nat}

theorem paths_file {w : World} (hR : Rep w B t φ μ) (hok : t.Ok) {p : List ByteArray} {i : Nat} (hp : t.idOf p = some i) (hd : t.isDir i = false) :
    Calls Tryd.prog 33 #[.string (shown t (p, i)), ptr (φ i)] w (PathsPost w t p i) := by
  have hmem : (p, i) ∈ t.names := by
    rcases idOf_mem hok hp with ⟨rfl, rfl⟩ | h
    · obtain ⟨d, hr⟩ := hok.root
      rw [isDir_of hok hr] at hd
      cases hd
    · exact h
  have HE : Hid (belowL t p = []) := belowL_file hok hmem hd
  have c2 := hR.fileCell hok hp hd
  have hlt := hR.lt_thing hok (has_idOf hok hp)
  obtain ⟨s, hs⟩ : ∃ s, shown t (p, i) = s := ⟨_, rfl⟩
  have HS := Lib.hid hs
  have e1 : (w.alloc (.cells #[.string s] 9)).heap.size = w.heap.size + 1 := by simp
  have hrg := run_range_nilMap (P := Tryd.prog) (w.alloc (.cells #[.string s] 9)) 64 _ _ ht_map
  have hnx : ∀ ty, (Instr.next (.pointer (some ⟨(w.alloc (.cells #[.string s] 9)).heap.size, 0, none⟩)) false ty).run Tryd.prog ((w.alloc (.cells #[.string s] 9)).alloc (.mapIter none 0 #[] 0)) = _ := fun ty => run_next_nilMap _ ty 0 0 #[]
  rw [e1] at hrg hnx
  rw [hs]
  clear hR hok hp hd hmem hs e1
  unfold ptr
  go_enter Tryd.func33, Tryd.ntmps33
  go_wp2
  refine wp_loop_rounds 1 ?_
  rw [rounds_succ]
  go_wp2
  go_ret
  have hb := (Below.refl w.heap.size w).alloc (Nat.le_refl _) (.cells #[.string s] 9)
  refine ⟨w.heap.size, 1, [s], rfl, (owns_one w s).alloc _, ?_, hb.alloc hb.size _⟩
  rw [HE.out, List.map_cons, List.map_nil, HS.out]
theorem owns_same {w w' : World} {base : Nat} {e : TypeId} {v : Value} {n : Nat} {xs : List Value} (h : w.ownsRow base e 1 v n xs) (hs : ∀ k o, v.ownBlock = some k → w.heap[k]? = some o → w'.heap[k]? = some o) : w'.ownsRow base e 1 v n xs := by
  refine ⟨h.1, h.2.imp_right ?_⟩
  rintro ⟨g, cap, cur, rfl, hb, hh, h3⟩
  exact ⟨g, cap, cur, rfl, hb, hs g _ rfl hh, h3⟩
theorem grown_of_below {w w' : World} (hb : Below w.heap.size w w') : w.grownBy w' none := ⟨hb.os, hb.tape, hb.output, hb.size, fun k hk _ => hb.block k hk⟩
theorem Ranging.congr {w : World} {b r : Nat} {l : List (ByteArray × Nat)} {left left' : ByteArray → Prop} {cnt : Nat} (h : Ranging w b r l left cnt) (hc : ∀ s, left s ↔ left' s) : Ranging w b r l left' cnt :=
  let ⟨lf, h1, h2⟩ := h
  ⟨lf, h1, fun s => (h2 s).trans (hc s)⟩

/-- What holds of the range behind some rounds. -/
structure PathsRel (w : World) (t : Sp.Tree) (p : List ByteArray) (i m r : Nat) (l : List (ByteArray × Nat)) (out : Value) (wr : World) (dn : ByteArray → Bool) (cnt : Nat) (L : List ByteArray) (g cap : Nat) : Prop where
  rg : Ranging wr m r l (fun s => (getM l s).isSome = true ∧ dn s = false) cnt
  is : out = .slice (some ⟨g, 0, none⟩) L.length cap
  apart : g ≠ r
  past : w.heap.size < r
  own : wr.ownsRow w.heap.size 9 1 out L.length (L.map Value.string)
  perm : L.Perm (((p, i) :: doneL t p dn).map (shown t))
  low : Below w.heap.size w wr

/-- One round more. -/
theorem PathsRel.step {w wr w1 w2 w3 : World} {p : List ByteArray} {i m r : Nat} {l : List (ByteArray × Nat)} {dn : ByteArray → Bool} {cnt cnt1 g cap : Nat} {L : List ByteArray} (hok : t.Ok) (h : PathsRel w t p i m r l (.slice (some ⟨g, 0, none⟩) L.length cap) wr dn cnt L g cap) (hm : m < w.heap.size)
    {s : ByteArray} {j : Nat} (hj : t.find (p ++ [s]) = some j) (hs : dn s = false) (hrg : Ranging w1 m r l (fun z => ((getM l z).isSome = true ∧ dn z = false) ∧ z ≠ s) cnt1) (hg1 : wr.grownBy w1 (some r)) (hsz : w1.heap.size = wr.heap.size)
    {L2 : List ByteArray} (hperm : L2.Perm (((p ++ [s], j) :: belowL t (p ++ [s])).map (shown t))) (hb2 : Below w1.heap.size w1 w2)
    {v' : Value} (hown : w3.ownsRow w.heap.size 9 1 v' (L.length + L2.length) (L.map Value.string ++ L2.map Value.string)) (hgrow : w2.grownBy w3 (some g)) (hloc : v'.ownBlock = some g ∨ v'.ownBlock = some w2.heap.size) (hpos : 0 < L.length) :
    ∃ g' cap', PathsRel w t p i m r l v' w3 (fun z => dn z || decide (z = s)) cnt1 (L ++ L2) g' cap' := by
  have hrlt := h.rg.lt
  have hpast := h.past
  have hgb : w.heap.size ≤ g := (h.own.lt g rfl).1
  obtain ⟨g', cap', rfl⟩ : ∃ g' cap', v' = .slice (some ⟨g', 0, none⟩) (L ++ L2).length cap' := by
    rcases hown.2 with ⟨_, h0⟩ | ⟨g', cap', _, hv, _⟩
    · omega
    · exact ⟨g', cap', by rw [hv, List.length_append]⟩
  have hr2 := ((hrg.kept (grown_of_below hb2) (by simp) (by simp)).kept hgrow (by simp; omega) (by simp [Ne.symm h.apart]))
  refine ⟨g', cap', ⟨hr2.congr (fun z => ?_), rfl, ?_, h.past, by have h' := hown; rw [← List.length_append, ← List.map_append] at h'; exact h', ?_, ?_⟩⟩
  · rw [and_assoc, Bool.or_eq_false_iff, decide_eq_false_iff_not]
  · rcases hloc with e | e
    · have : g' = g := by simpa [Value.ownBlock] using e
      rw [this]; exact h.apart
    · have : g' = w2.heap.size := by simpa [Value.ownBlock] using e
      have h2 := hb2.size
      omega
  · refine (h.perm.append hperm).trans ?_
    rw [← List.map_append, List.cons_append]
    exact (((doneL_step hok hj hs).symm).cons (p, i)).map _
  · have h1 : Below w.heap.size w w1 := h.low.trans ⟨hg1.os, hg1.tape, hg1.output, hg1.size, fun k hk => hg1.block k (by have := h.low.size; omega) (by have := h.past; simp; omega)⟩
    have h2 : Below w.heap.size w w2 := h1.trans (hb2.mono h1.size)
    exact h2.trans ⟨hgrow.os, hgrow.tape, hgrow.output, hgrow.size, fun k hk => hgrow.block k (by have := h2.size; omega) (by simp; omega)⟩

theorem PathsRel.len {w wr : World} {p : List ByteArray} {i m r : Nat} {l : List (ByteArray × Nat)} {out : Value} {dn : ByteArray → Bool} {cnt g cap : Nat} {L : List ByteArray} (h : PathsRel w t p i m r l out wr dn cnt L g cap) : 0 < L.length ∧ L.length ≤ t.names.length + 1 := by
  have := h.perm.length_eq
  rw [List.length_map, List.length_cons] at this
  have h2 : (doneL t p dn).length ≤ t.names.length := List.length_filter_le _ _
  omega
theorem belowL_len (p : List ByteArray) : (belowL t p).length ≤ t.names.length := List.length_filter_le _ _


theorem paths_any (hok : t.Ok) (hfew : t.names.length ≤ 1000000) : ∀ (n : Nat) (p : List ByteArray) (i : Nat) (w : World), (belowL t p).length < n → Rep w B t φ μ → t.idOf p = some i → p.length + (belowL t p).length ≤ 1000000 →
    Calls Tryd.prog 33 #[.string (shown t (p, i)), ptr (φ i)] w (PathsPost w t p i) := by
  intro n
  induction n with
  | zero => intro p i w hn; omega
  | succ n ih =>
    intro p i w hn hR hp hlen
    cases hd : t.isDir i with
    | false => exact paths_file hR hok hp hd
    | true =>
      have c2 := hR.dirCell hp hd
      obtain ⟨_, l, hl, hget⟩ := hR.dir i p hp hd
      have hkeys := hR.keys hok hp hd hl
      have hnames : ∀ x ∈ l, nameB x.1 = true := fun x hx => by
        have h1 : x.1 ∈ t.kidsL p := hkeys.mem_iff.1 (List.mem_map.2 ⟨x, hx, rfl⟩)
        obtain ⟨j, hj⟩ := kidsL_mem.1 h1
        exact hok.good _ _ hj _ (by simp)
      have hml : ∀ x ∈ l, x.1.size ≤ maxLen := fun x hx => Nat.le_trans (nameB_size (hnames x hx)) (by decide)
      have hll : l.length ≤ 1000000 := by
        have := hkeys.length_eq
        rw [List.length_map] at this
        have h2 := kids_few t p
        omega
      have hlt := hR.lt_thing hok (has_idOf hok hp)
      have hmlt := hl.lt
      have hs0s : (shown t (p, i)).size ≤ 14 * p.length + 1 := shown_size (idOf_good hok hp)
      have m2 := fun (r : Option Nat) (w : World) => run_neq_map_nil (P := Tryd.prog) w 64 _ _ r ht_map
      obtain ⟨i0, hi, hz0, hz1, hz2⟩ := info_parts Tryd.infoText
      have HCh : Hid (∀ s j, t.find (p ++ [s]) = some j → shown t (p, i) ++ (s ++ slash t j) = shown t (p ++ [s], j)) := fun s j _ => shown_child hd
      obtain ⟨s0, hs0⟩ : ∃ s, shown t (p, i) = s := ⟨_, rfl⟩
      have hb1 := (Below.refl w.heap.size w).alloc (Nat.le_refl _) (.cells #[.string s0] 9)
      have hl1 : MapAt (w.alloc (.cells #[.string s0] 9)) (μ i) l := hl.same (heap_below hb1 _)
      have hown1 := owns_one w s0
      rw [hs0] at hs0s HCh ⊢
      unfold ptr
      have HR := Lib.hid hR
      have HL := Lib.hid hl
      have HG := Lib.hid hget
      have HP := Lib.hid hp
      have HS0 := Lib.hid hs0
      have HIH := Lib.hid ih
      have HOK := Lib.hid hok
      have HMlt := Lib.hid hmlt
      clear hR hl hget hkeys hp hs0 ih hok hnames
      go_enter Tryd.func33, Tryd.ntmps33
      go_wp2_with (first
        | (at_range; refine wpList_range_dir rfl _ rfl rfl hl1 hml hll ?_; intro w0 cnt0 hrg0 hg0 hs0')
        | go_in)
      have e1 : (w.alloc (.cells #[.string s0] 9)).heap.size = w.heap.size + 1 := by simp
      have e2 := hg0.block
      rw [e1] at e2
      generalize (w.alloc (.cells #[.string s0] 9)).heap.size = r at hrg0 e1 ⊢
      have hr0 : PathsRel w t p i (μ i) r l (.slice (some ⟨w.heap.size, 0, none⟩) 1 1) w0 (fun _ => false) cnt0 [s0] w.heap.size 1 := by
        have hgb : Below w.heap.size w w0 := hb1.trans ⟨hg0.os, hg0.tape, hg0.output, hg0.size, fun k hk => e2 k (by omega) (by simp)⟩
        refine ⟨hrg0.congr (fun s => by simp), rfl, by omega, by omega, owns_same hown1 (fun k o hk ho => ?_), ?_, hgb⟩
        · rw [hg0.block k (Array.getElem?_eq_some_iff.1 ho).1 (by simp)]; exact ho
        · rw [doneL_none, List.map_cons, List.map_nil, HS0.out]
      have HR0 := Lib.hid hr0
      clear hr0 hrg0 hg0 hs0' hown1 hl1 hb1 e1 e2
      go_frame
      go_loopw [5] (fun out wr => ∃ (dn : ByteArray → Bool) (cnt : Nat) (L : List ByteArray) (g cap : Nat), Hid (PathsRel w t p i (μ i) r l out wr dn cnt L g cap)) (fun _ wr => wr.rangeLeft (μ i) r)
      case atStart => exact ⟨_, _, _, _, _, HR0⟩
      case round =>
        obtain ⟨dn, cnt, L, g, cap, HRel⟩ := hrel
        obtain rfl := HRel.out.is
        have hlr := HL.out.same (heap_below (HRel.out.low) _)
        go_wp2_with (first
          | (at_next; refine wpList_next_dir rfl _ rfl rfl hlr hml hll HRel.out.rg ?_ ?_)
          | go_in)
        · intro hdone
          clear hlr
          go_wp2
          go_ret
          refine ⟨g, cap, L, rfl, HRel.out.own, ?_, HRel.out.low⟩
          have hall : doneL t p dn = belowL t p := doneL_all HOK.out (fun s hs => by
            have h1 := hdone s
            rw [HG.out s, Option.isSome_map] at h1
            simpa using h1 hs)
          rw [← hall]
          exact HRel.out.perm
        · intro s c w1 cnt1 _ hsd hgc hrg1 hlt1 hg1 hs1 hen
          obtain ⟨j, hj, hjc⟩ : ∃ j, t.find (p ++ [s]) = some j ∧ φ j = c := by
            rw [HG.out s] at hgc
            exact Option.map_eq_some_iff.1 hgc
          subst hjc
          have hrec := HRel.out
          have hlow1 : Below w.heap.size w w1 := hrec.low.trans ⟨hg1.os, hg1.tape, hg1.output, hg1.size, fun k hk => hg1.block k (by have := hrec.low.size; omega) (by have := hrec.past; simp; omega)⟩
          have hR1 := HR.out.below hlow1
          have hidj : t.idOf (p ++ [s]) = some j := find_idOf HOK.out hj
          have hgood := nameB_size (HOK.out.good _ _ ((find_mem HOK.out).1 hj) s (by simp))
          have hch := HCh.out s j hj
          have hbc := belowL_child HOK.out hj
          have hown1 : w1.ownsRow w.heap.size 9 1 (.slice (some ⟨g, 0, none⟩) L.length cap) L.length (L.map Value.string) := hrec.own.kept hg1 (Or.inr (by have := hrec.apart; simp [Value.ownBlock]; omega))
          have hlens := hrec.len
          have hcall := HIH.out (p ++ [s]) j w1 (by omega) hR1 hidj (by simp; omega)
          rw [← hch] at hcall
          have HRg := Lib.hid hrg1
          have HG1 := Lib.hid hg1
          have HSz := Lib.hid hs1
          have HFj := Lib.hid hj
          have HCall := Lib.hid hcall
          have HOwn := Lib.hid hown1
          have HLow := Lib.hid hlow1
          have HLt := Lib.hid hlt1
          cases hdj : t.isDir j with
          | true =>
            have c3 := hR1.dirCell hidj hdj
            have hsl : slash t j = ⟨#[47]⟩ := by unfold slash; rw [hdj]; rfl
            rw [hsl] at HCall
            clear hrg1 hg1 hs1 hj hcall hown1 hlow1 hlt1 hrec hR1 hidj hch hdj hsl hbc hgc hlr
            unfold ptr at HCall hen
            unfold ptr
            go_wp2_with fail
            refine HCall.out.mono ?_
            rintro e w2 ⟨g2, cap2, L2, rfl, hown2, hperm2, hb2⟩
            have HOwn2 : Hid (w2.ownsRow w.heap.size 9 1 (.slice (some ⟨g, 0, none⟩) L.length cap) L.length (L.map Value.string)) := HOwn.out.kept (grown_of_below hb2) (Or.inr (by simp [Value.ownBlock]))
            have hcells := Lib.hid (hown2.cells (g := g2) rfl)
            have hl2 : Hid ((L2.map Value.string).length = L2.length * 1) := by
              show (L2.map Value.string).length = L2.length * 1
              simp
            have h1c : Hid (∀ u ∈ L2.map Value.string, u.oneCell' = true) := fun u hu => by
              obtain ⟨x, _, rfl⟩ := List.mem_map.1 hu
              rfl
            have hz2' : w.heap.size ≤ w2.heap.size := Nat.le_trans HLow.out.size hb2.size
            have hlen2 : L2.length ≤ t.names.length + 1 := by
              have h1 := hperm2.length_eq
              rw [List.length_map, List.length_cons] at h1
              have h2 := belowL_len (t := t) (p ++ [s])
              omega
            have hB1 : L.length + L2.length ≤ maxLen := by unfold maxLen; omega
            have hB2 : (L.length + L2.length) * 16 ≤ 140737488355328 := by omega
            have HPerm2 := Lib.hid hperm2
            have HB2 := Lib.hid hb2
            clear hperm2 hb2 hown2
            go_wp2_with (at_builtin; refine wpList_append_own_at _ rfl _ _ 27 rfl w.heap.size 9 i0 (.string ByteArray.empty) 1 16 Tryd.underlying27 hi hz0 hz1 hz2 rfl (by decide) _ _ _ rfl HOwn2.out ⟨g2, 0, none⟩ L2.length cap2 (L2.map Value.string) rfl hl2.out hcells.out h1c.out hB1 hB2 hz2' ?_)
            intro v' w3 hown3 hgrow _ hloc
            obtain ⟨g', cap', hnew⟩ := HRel.out.step HOK.out HMlt.out HFj.out hsd HRg.out HG1.out HSz.out HPerm2.out HB2.out hown3 hgrow hloc hlens.1
            have HNew := Lib.hid hnew
            clear hown3 hgrow hloc hnew hcells hl2 h1c
            go_wp2
            go_roundw
            case rel => exact ⟨_, _, _, _, _, HNew⟩
            case measure => rw [HNew.out.rg.left_eq, HRel.out.rg.left_eq]; exact HLt.out
          | false =>
            have c3 := hR1.fileCell HOK.out hidj hdj
            have hsl : s0 ++ (s ++ slash t j) = s0 ++ s := by
              have : slash t j = ⟨#[]⟩ := by unfold slash; rw [hdj]; rfl
              rw [this, add_empty]
            rw [hsl] at HCall
            clear hrg1 hg1 hs1 hj hcall hown1 hlow1 hlt1 hrec hR1 hidj hch hdj hsl hbc hgc hlr
            unfold ptr at HCall hen
            unfold ptr
            go_wp2_with fail
            refine HCall.out.mono ?_
            rintro e w2 ⟨g2, cap2, L2, rfl, hown2, hperm2, hb2⟩
            have HOwn2 : Hid (w2.ownsRow w.heap.size 9 1 (.slice (some ⟨g, 0, none⟩) L.length cap) L.length (L.map Value.string)) := HOwn.out.kept (grown_of_below hb2) (Or.inr (by simp [Value.ownBlock]))
            have hcells := Lib.hid (hown2.cells (g := g2) rfl)
            have hl2 : Hid ((L2.map Value.string).length = L2.length * 1) := by
              show (L2.map Value.string).length = L2.length * 1
              simp
            have h1c : Hid (∀ u ∈ L2.map Value.string, u.oneCell' = true) := fun u hu => by
              obtain ⟨x, _, rfl⟩ := List.mem_map.1 hu
              rfl
            have hz2' : w.heap.size ≤ w2.heap.size := Nat.le_trans HLow.out.size hb2.size
            have hlen2 : L2.length ≤ t.names.length + 1 := by
              have h1 := hperm2.length_eq
              rw [List.length_map, List.length_cons] at h1
              have h2 := belowL_len (t := t) (p ++ [s])
              omega
            have hB1 : L.length + L2.length ≤ maxLen := by unfold maxLen; omega
            have hB2 : (L.length + L2.length) * 16 ≤ 140737488355328 := by omega
            have HPerm2 := Lib.hid hperm2
            have HB2 := Lib.hid hb2
            clear hperm2 hb2 hown2
            go_wp2_with (at_builtin; refine wpList_append_own_at _ rfl _ _ 27 rfl w.heap.size 9 i0 (.string ByteArray.empty) 1 16 Tryd.underlying27 hi hz0 hz1 hz2 rfl (by decide) _ _ _ rfl HOwn2.out ⟨g2, 0, none⟩ L2.length cap2 (L2.map Value.string) rfl hl2.out hcells.out h1c.out hB1 hB2 hz2' ?_)
            intro v' w3 hown3 hgrow _ hloc
            obtain ⟨g', cap', hnew⟩ := HRel.out.step HOK.out HMlt.out HFj.out hsd HRg.out HG1.out HSz.out HPerm2.out HB2.out hown3 hgrow hloc hlens.1
            have HNew := Lib.hid hnew
            clear hown3 hgrow hloc hnew hcells hl2 h1c
            go_wp2
            go_roundw
            case rel => exact ⟨_, _, _, _, _, HNew⟩
            case measure => rw [HNew.out.rg.left_eq, HRel.out.rg.left_eq]; exact HLt.out
end
end Go.Proofs.YtcgpmnlondnbhaaDoor
