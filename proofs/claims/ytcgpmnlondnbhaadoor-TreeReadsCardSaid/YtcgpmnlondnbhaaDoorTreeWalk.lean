/-
  The tree's walks: at, place, is, put, away, New.
-/
import Derived.Test.YtcgpmnlondnbhaaDoorRepMove
namespace Go.Proofs.YtcgpmnlondnbhaaDoor
open Go Go.RowKit Txt Sp

/-- Nothing below a world's end has turned but at places of K. -/
structure Turn (K : Nat → Prop) (w w' : World) : Prop where
  os : w'.os = w.os
  tape : w'.tape = w.tape
  output : w'.output = w.output
  size : w.heap.size ≤ w'.heap.size
  block : ∀ k, k < w.heap.size → ¬ K k → w'.heap[k]? = w.heap[k]?
theorem Turn.of_below {K : Nat → Prop} {w w' : World} (h : Below w.heap.size w w') : Turn K w w' := ⟨h.os, h.tape, h.output, h.size, fun k hk _ => h.block k hk⟩
theorem Turn.refl (K : Nat → Prop) (w : World) : Turn K w w := Turn.of_below (Below.refl _ _)
theorem Turn.trans {K K1 K2 : Nat → Prop} {a b c : World} (h : Turn K1 a b) (g : Turn K2 b c) (h1 : ∀ k, k < a.heap.size → K1 k → K k) (h2 : ∀ k, k < a.heap.size → K2 k → K k) : Turn K a c :=
  ⟨g.os.trans h.os, g.tape.trans h.tape, g.output.trans h.output, Nat.le_trans h.size g.size, fun k hk hn => (g.block k (Nat.lt_of_lt_of_le hk h.size) (fun e => hn (h2 k hk e))).trans (h.block k hk (fun e => hn (h1 k hk e)))⟩
theorem Turn.mono {K K' : Nat → Prop} {a b : World} (h : Turn K a b) (hk : ∀ k, k < a.heap.size → K k → K' k) : Turn K' a b :=
  ⟨h.os, h.tape, h.output, h.size, fun k hk' hn => h.block k hk' (fun e => hn (hk k hk' e))⟩
theorem Turn.below {K : Nat → Prop} {a b : World} {n : Nat} (h : Turn K a b) (hk : ∀ k, K k → n ≤ k) (hn : n ≤ a.heap.size) : Below n a b :=
  ⟨h.os, h.tape, h.output, h.size, fun k hk' => h.block k (by omega) (fun e => by have := hk k e; omega)⟩
theorem Turn.heap {K : Nat → Prop} {a b : World} (h : Turn K a b) {k : Nat} {o : Obj} (ho : a.heap[k]? = some o) (hk : ¬ K k) : b.heap[k]? = some o := by
  rw [h.block k (Array.getElem?_eq_some_iff.1 ho).1 hk]; exact ho

theorem bcell {a b : World} (h : Below a.heap.size a b) : (∀ k o, k < a.heap.size → b.cell? ⟨k, o, none⟩ = a.cell? ⟨k, o, none⟩) ∧ (∀ k o, k < a.heap.size → b.frozen? ⟨k, o, none⟩ = a.frozen? ⟨k, o, none⟩) :=
  ⟨fun k o hk => h.cell (p := ⟨k, o, none⟩) hk, fun k o hk => h.frozen (p := ⟨k, o, none⟩) hk⟩

section
set_option maxHeartbeats 1000000

/-- at: what a path stands for. -/
theorem tat_any {w : World} {B : Nat} {t : Sp.Tree} {φ μ : Nat → Nat} (hR : Rep w B t φ μ) (hok : t.Ok) (p : ByteArray) (hm : MaxOk w) (hs : p.size ≤ 4000000000) :
    Calls Tryd.prog 43 #[ptr B, .string p] w fun e w' => e = .returned (.tuple #[thingV φ (t.at p), .int .i64 (t.at p).2]) ∧ Below w.heap.size w w' := by
  rcases splitN_or p with ⟨l, h, h8⟩ | ⟨c, h, hc⟩
  · have H := Lib.hid h
    have HA : Hid (t.at p = t.walk [] l 0) := by show t.at p = _; unfold Sp.Tree.at; rw [h]; rfl
    have HR := Lib.hid hR
    have HOK := Lib.hid hok
    clear h hR hok
    go_enter Tryd.func43, Tryd.ntmps43
    go_wp2_with fail
    refine (split_ok H _ hm hs).mono ?_
    rintro e w1 ⟨v, rfl, hv, hb⟩
    go_wp2_with fail
    refine (twalk_any (HR.out.below hb) HOK.out v l hv h8).mono ?_
    rintro e w2 ⟨rfl, rfl⟩
    go_wp2
    go_ret2
    rw [HA.out]
    exact ⟨rfl, hb⟩
  · have H := Lib.hid h
    have HA : Hid (t.at p = (0, c)) := by show t.at p = _; unfold Sp.Tree.at; rw [h]; simp [beq_eq_false_iff_ne.1 hc]
    clear h hR hok
    have hc0 := Lib.hid (beq_eq_false_iff_ne.1 hc)
    go_enter Tryd.func43, Tryd.ntmps43
    go_wp2_with fail
    refine (split_err H _ hm hs).mono ?_
    rintro e w1 ⟨v, rfl, hv, hb⟩
    go_wp2
    go_ret2
    rw [HA.out, thingV_err rfl hc0.out]
    exact ⟨rfl, hb⟩

theorem last_short {p : ByteArray} {l : List ByteArray} {x : ByteArray} (h1 : lastN p = (l, x, 0)) : l.length ≤ 8 := by
  rcases lastN_cases p with ⟨c, hl, hc⟩ | ⟨l', x', hl, hs⟩
  · rw [h1] at hl
    cases hl
    cases hc
  · rw [h1] at hl
    cases hl
    have := (splitN_short hs).1
    simp at this
    omega

/-- place: the directory and the name. -/
def PlacePost (t : Sp.Tree) (φ : Nat → Nat) (p : ByteArray) (w : World) (e : Ending) (w' : World) : Prop :=
  (∃ v s, e = .returned (.tuple #[.agg #[.pointer v, .string s], .int .i64 (t.dirC p)]) ∧ (t.dirC p = 0 → ∃ l i, lastN p = (l, s, 0) ∧ full p = l ++ [s] ∧ t.idOf l = some i ∧ t.isDir i = true ∧ nameB s = true ∧ v = some ⟨φ i, 0, none⟩)) ∧ Below w.heap.size w w'

theorem place_any {w : World} {B : Nat} {t : Sp.Tree} {φ μ : Nat → Nat} (hR : Rep w B t φ μ) (hok : t.Ok) (p : ByteArray) (hm : MaxOk w) (hs : p.size ≤ 4000000000) :
    Calls Tryd.prog 40 #[ptr B, .string p] w (PlacePost t φ p w) := by
  have m1 := fun (r : Option Nat) (w : World) => run_eql_map_nil (P := Tryd.prog) w 64 _ _ r ht_map
  have HR := Lib.hid hR
  have HOK := Lib.hid hok
  rcases dirTo t p with ⟨c, h1, h2, h3⟩ | ⟨l, x, c, h1, h2, h3, h4⟩ | ⟨l, x, i, h1, h2, h3, h4⟩ | ⟨l, x, i, h1, h2, h3, h4, h5, h6⟩
  · have H := Lib.hid h1
    have HD := Lib.hid h3
    clear h1 h3 hR hok
    go_enter Tryd.func40, Tryd.ntmps40
    go_wp2_with fail
    refine (last_triple H _ (hm.below ((Below.refl _ _).alloc (Nat.le_refl _) _)) hs).mono ?_
    rintro e w1 ⟨ad, n, rfl, hv, hb⟩
    obtain ⟨gc, gf⟩ := bcell hb
    have hz : w.heap.size < w1.heap.size := by have := hb.size; simp at this; omega
    have hc0 := Lib.hid (beq_eq_false_iff_ne.1 h2)
    have HB := Lib.hid (below_next ((Below.refl w.heap.size w).alloc (Nat.le_refl _) _) hb)
    go_wp2
    refine bodyPost_ret (v := .tuple #[.agg #[.pointer none, .string ⟨#[]⟩], .int .i64 c]) (by simp [results, Tryd.results40, go_sem, gc]) rfl ?_
    refine ⟨⟨_, _, by rw [HD.out], fun h0 => absurd (HD.out.symm.trans h0) hc0.out⟩, ?_⟩
    exact (HB.out.setCell (Nat.le_refl _) _).setCell (Nat.le_refl _) _
  · have H := Lib.hid h1
    have HD := Lib.hid h4
    have HW := Lib.hid h2
    have hc0 := Lib.hid (beq_eq_false_iff_ne.1 h3)
    have h8 : l.length ≤ 8 := last_short h1
    clear h1 h2 h4 hR hok
    go_enter Tryd.func40, Tryd.ntmps40
    go_wp2_with fail
    refine (last_triple H _ (hm.below ((Below.refl _ _).alloc (Nat.le_refl _) _)) hs).mono ?_
    rintro e w1 ⟨ad, n, rfl, hv, hb⟩
    obtain ⟨gc, gf⟩ := bcell hb
    have hz : w.heap.size < w1.heap.size := by have := hb.size; simp at this; omega
    have HB := Lib.hid (below_next ((Below.refl w.heap.size w).alloc (Nat.le_refl _) _) hb)
    go_wp2_with fail
    refine (twalk_any (HR.out.below HB.out) HOK.out _ l hv h8).mono ?_
    rintro e w2 ⟨rfl, rfl⟩
    rw [HW.out, thingV_err rfl hc0.out]
    go_wp2
    refine bodyPost_ret (v := .tuple #[.agg #[.pointer none, .string ⟨#[]⟩], .int .i64 c]) (by simp [results, Tryd.results40, go_sem, gc]) rfl ?_
    refine ⟨⟨_, _, by rw [HD.out], fun h0 => absurd (HD.out.symm.trans h0) hc0.out⟩, ?_⟩
    exact (HB.out.setCell (Nat.le_refl _) _).setCell (Nat.le_refl _) _
  · have H := Lib.hid h1
    have HD := Lib.hid h4
    have HW := Lib.hid h2
    have HI : Hid (t.idOf l = some i) := walk_ok l h2 idOf_nil
    have hdir := Lib.hid h3
    have h8 : l.length ≤ 8 := last_short h1
    clear h1 h2 h3 h4 hR hok
    go_enter Tryd.func40, Tryd.ntmps40
    go_wp2_with fail
    refine (last_triple H _ (hm.below ((Below.refl _ _).alloc (Nat.le_refl _) _)) hs).mono ?_
    rintro e w1 ⟨ad, n, rfl, hv, hb⟩
    obtain ⟨gc, gf⟩ := bcell hb
    have hz : w.heap.size < w1.heap.size := by have := hb.size; simp at this; omega
    have HB := Lib.hid (below_next ((Below.refl w.heap.size w).alloc (Nat.le_refl _) _) hb)
    have HR1 := Lib.hid (HR.out.below HB.out)
    have c2 := HR1.out.fileCell HOK.out HI.out hdir.out
    go_wp2_with fail
    refine (twalk_any HR1.out HOK.out _ l hv h8).mono ?_
    rintro e w2 ⟨rfl, rfl⟩
    rw [HW.out, thingV_ok rfl]
    unfold ptr
    go_wp2
    refine bodyPost_ret (v := .tuple #[.agg #[.pointer none, .string ⟨#[]⟩], .int .i64 103]) (by simp [results, Tryd.results40, go_sem, gc]) rfl ?_
    refine ⟨⟨_, _, by rw [HD.out], fun h0 => absurd (HD.out.symm.trans h0) (by decide)⟩, ?_⟩
    exact (HB.out.setCell (Nat.le_refl _) _).setCell (Nat.le_refl _) _
  · have H := Lib.hid h1
    have HD := Lib.hid h4
    have HW := Lib.hid h2
    have H5 := Lib.hid h5
    have H6 := Lib.hid h6
    have HI : Hid (t.idOf l = some i) := walk_ok l h2 idOf_nil
    have hdir := Lib.hid h3
    have h8 : l.length ≤ 8 := last_short h1
    clear h1 h2 h3 h4 h5 h6 hR hok
    go_enter Tryd.func40, Tryd.ntmps40
    go_wp2_with fail
    refine (last_triple H _ (hm.below ((Below.refl _ _).alloc (Nat.le_refl _) _)) hs).mono ?_
    rintro e w1 ⟨ad, n, rfl, hv, hb⟩
    obtain ⟨gc, gf⟩ := bcell hb
    have hz : w.heap.size < w1.heap.size := by have := hb.size; simp at this; omega
    have HB := Lib.hid (below_next ((Below.refl w.heap.size w).alloc (Nat.le_refl _) _) hb)
    have HR1 := Lib.hid (HR.out.below HB.out)
    have c2 := HR1.out.dirCell HI.out hdir.out
    go_wp2_with fail
    refine (twalk_any HR1.out HOK.out _ l hv h8).mono ?_
    rintro e w2 ⟨rfl, rfl⟩
    rw [HW.out, thingV_ok rfl]
    unfold ptr
    go_wp2
    refine bodyPost_ret (v := .tuple #[.agg #[.pointer (some ⟨φ i, 0, none⟩), .string x], .int .i64 0]) (by simp [results, Tryd.results40, go_sem, gc]) rfl ?_
    refine ⟨⟨_, _, by rw [HD.out], fun h0 => ⟨l, i, H.out, H5.out, HI.out, hdir.out, H6.out, rfl⟩⟩, ?_⟩
    exact (HB.out.setCell (Nat.le_refl _) _).setCell (Nat.le_refl _) _

/-- is: what a place's name stands for. -/
theorem is_any {w : World} {B : Nat} {t : Sp.Tree} {φ μ : Nat → Nat} (hR : Rep w B t φ μ) {i : Nat} {p : List ByteArray} (hp : t.idOf p = some i) (hd : t.isDir i = true) (s : ByteArray) :
    Calls Tryd.prog 41 #[.agg #[ptr (φ i), .string s]] w fun e w' => e = .returned (ptrO ((t.find (p ++ [s])).map φ)) ∧ Below w.heap.size w w' := by
  have hb := (Below.refl w.heap.size w).alloc (Nat.le_refl _) (.cells #[ptr (φ i), .string s] 88)
  have hR1 := hR.below hb
  have c2 := hR1.dirCell hp hd
  have hl := fun n => hR1.look hp hd s n
  have HB := Lib.hid hb
  obtain ⟨r, hr⟩ : ∃ r, (t.find (p ++ [s])).map φ = r := ⟨_, rfl⟩
  rw [hr] at hl ⊢
  clear hR hR1 hp hd hb hr
  unfold ptr at c2 hl ⊢
  go_enter Tryd.func41, Tryd.ntmps41
  go_wp2
  go_quiet (fail)
  go_wp2
  go_ret
  exact ⟨rfl, below_drewN HB.out _⟩
end
end Go.Proofs.YtcgpmnlondnbhaaDoor
