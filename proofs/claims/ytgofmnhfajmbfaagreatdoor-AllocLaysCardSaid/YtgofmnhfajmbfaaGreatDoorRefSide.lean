/-
  The reference's changes (layer 12), when there are none; its side (layer 14): New, Read.
-/
import Derived.Test.YtgofmnhfajmbfaaGreatDoorRefDisk
import Derived.Test.YtgofmnhfajmbfaaGreatDoorRefFmt
namespace Go.Proofs.YtgofmnhfajmbfaaGreatDoor
open Go Go.RowKit Txt Sp

/-- No changes. -/
def RNone (w : World) (c : Nat) : Prop := w.heap[c]? = some (.cells #[.slice none 0 0] 203 (0, 0))
section
set_option maxHeartbeats 4000000
set_option maxRecDepth 20000 in
theorem rleft_any {w : World} {c : Nat} (h : RNone w c) : Calls Tryz.prog 67 #[pt c, .slice none 0 0] w fun e w' => e = .returned (.int .i64 0) ∧ w' = w := by
  have c0 := cellOf (k := 0) h rfl
  clear h
  unfold pt
  go_enter Tryz.func67, Tryz.ntmps67
  go_wp2
  go_loopw [5, 6, 7, 8] (fun n i _ _ wr => n = .int .i64 0 ∧ i = .int .i64 0 ∧ wr = w) (fun _ _ _ _ _ => 0)
  case atStart => exact ⟨rfl, rfl, rfl⟩
  case round =>
    obtain ⟨rfl, rfl, rfl⟩ := hrel
    go_wp2
    first | exact ⟨rfl, rfl⟩ | (go_ret; exact ⟨rfl, rfl⟩)
set_option maxRecDepth 20000 in
theorem rsectors12_any {w : World} {c : Nat} (h : RNone w c) : Calls Tryz.prog 70 #[pt c] w fun e w' => e = .returned (.slice none 0 0) ∧ w' = w := by
  have c0 := cellOf (k := 0) h rfl
  clear h
  unfold pt
  go_enter Tryz.func70, Tryz.ntmps70
  go_wp2
  go_loopw [3, 4, 5, 6, 7] (fun o i _ _ _ wr => o = .slice none 0 0 ∧ i = .int .i64 0 ∧ wr = w) (fun _ _ _ _ _ _ => 0)
  case atStart => exact ⟨rfl, rfl, rfl⟩
  case round =>
    obtain ⟨rfl, rfl, rfl⟩ := hrel
    go_wp2
    first | exact ⟨rfl, rfl⟩ | (go_ret; exact ⟨rfl, rfl⟩)
set_option maxRecDepth 20000 in
theorem rof12_any {w : World} {c : Nat} (h : RNone w c) (i s : Int) : Calls Tryz.prog 139 #[pt c, .int .i64 i, .int .i64 s] w fun e w' => e = .returned (.slice none 0 0) ∧ w' = w := by
  have c0 := cellOf (k := 0) h rfl
  clear h
  unfold pt
  go_enter Tryz.func139, Tryz.ntmps139
  go_wp2
  go_loopw [7, 8] (fun o i wr => o = .slice none 0 0 ∧ i = .int .i64 0 ∧ wr = w) (fun _ _ _ => 0)
  case atStart => exact ⟨rfl, rfl, rfl⟩
  case round =>
    obtain ⟨rfl, rfl, rfl⟩ := hrel
    go_wp2
    first | exact ⟨rfl, rfl⟩ | (go_ret; exact ⟨rfl, rfl⟩)
set_option maxRecDepth 20000 in
theorem rpatched_any (w : World) (c : Nat) (s : ByteArray) : Calls Tryz.prog 195 #[pt c, .string s, .slice none 0 0] w fun e w' => e = .returned (.string s) ∧ w' = w := by
  unfold pt
  go_enter Tryz.func195, Tryz.ntmps195
  go_wp2
  go_loopw [1, 7] (fun t i wr => t = .string s ∧ i = .int .i64 0 ∧ wr = w) (fun _ _ _ => 0)
  case atStart => exact ⟨rfl, rfl, rfl⟩
  case round =>
    obtain ⟨rfl, rfl, rfl⟩ := hrel
    go_wp2
    first | exact ⟨rfl, rfl⟩ | (go_ret; exact ⟨rfl, rfl⟩)
set_option maxRecDepth 20000 in
theorem rview_any {w : World} {c : Nat} (h : RNone w c) (i : Int) (s : ByteArray) (hs : s.size = 64) : Calls Tryz.prog 131 #[pt c, .int .i64 i, .string s] w fun e w' => e = .returned (.tuple #[.string s, .int .i64 0]) ∧ w' = w := by
  have hof := rof12_any h i (-1)
  have hpa := rpatched_any w c s
  have q1 : ((s.size : Int) != 64) = false := by rw [hs]; rfl
  unfold pt at hof hpa ⊢
  have HOF := Lib.hid hof
  have HPA := Lib.hid hpa
  clear hof hpa
  clear h hs
  go_enter Tryz.func131, Tryz.ntmps131
  go_wp2_with fail
  refine HOF.out.mono ?_
  rintro e w1 ⟨rfl, rfl⟩
  go_wp2_with fail
  refine HPA.out.mono ?_
  rintro e w1 ⟨rfl, rfl⟩
  go_wp2
  first | exact ⟨rfl, rfl⟩ | (go_ret2; exact ⟨rfl, rfl⟩)
/-- A sector of a disk of the reference, as it is read. -/
theorem RDisk.row {base top : Nat} {w : World} {r : Nat} {L : List ByteArray} (h : RDisk base top w r L) : ∃ (ad : Option Addr) (n cap : Nat), w.cell? ⟨r, 0, none⟩ = some (.slice ad n cap) ∧ Hid (n = L.length) ∧ n ≤ 9223372036854775807 ∧
    Hid (∀ j, j < n → ∃ b off x, ad = some ⟨b, off, none⟩ ∧ b < w.heap.size ∧ L[j]? = some x ∧ w.cell? ⟨b, off + j, none⟩ = some (.string x)) := by
  obtain ⟨v, h1, h2, -⟩ := h
  obtain ⟨ad, n, cap, rfl, HN, hn, HF⟩ := RowAt.facts (f := textC) (OwnR.row (fun _ _ => rfl) h2)
  refine ⟨ad, n, cap, cellOf (k := 0) h1 rfl, HN, hn, fun j hj => ?_⟩
  obtain ⟨b, o, x, e1, hb, hx, hc⟩ := HF.out j hj
  refine ⟨b, o, x, e1, hb, hx, ?_⟩
  have := hc 0 _ rfl
  simpa using this
set_option maxRecDepth 20000 in
theorem rread11_any {base top : Nat} {w : World} {r : Nat} {L : List ByteArray} (h : RDisk base top w r L) {k : Nat} {s : ByteArray} (hk : L[k]? = some s) : Calls Tryz.prog 129 #[pt r, .int .i64 (k : Int)] w fun e w' => e = .returned (.tuple #[.string s, .int .i64 0]) ∧ w' = w := by
  obtain ⟨ad, n, cap, c0, HN, hn, HF⟩ := h.row
  have hkn : k < n := by rw [HN.out]; exact (List.getElem?_eq_some_iff.1 hk).1
  obtain ⟨b, o, x, rfl, hb, hx, c1⟩ := HF.out k hkn
  obtain rfl : x = s := Option.some.inj (hx.symm.trans hk)
  have q1 : decide ((k : Int) < 0) = false := decide_eq_false (by omega)
  have q2 : decide ((n : Int) ≤ (k : Int)) = false := decide_eq_false (by omega)
  have q3 : (k : Int) < (n : Int) := by omega
  unfold pt
  clear h hb hx hk
  go_enter Tryz.func129, Tryz.ntmps129
  go_wp2
  first | exact ⟨rfl, rfl⟩ | (go_ret2; exact ⟨rfl, rfl⟩)
end
end Go.Proofs.YtgofmnhfajmbfaaGreatDoor
namespace Go.Proofs.YtgofmnhfajmbfaaGreatDoor
open Go Go.RowKit Txt Sp

/-- A side of the reference, without changes. -/
def RSoft (w : World) (k r c : Nat) : Prop := w.heap[k]? = some (.cells #[pt r, .int .i64 0, .int .i64 0, pt c, .slice none 0 0] 121 (0, 0)) ∧ RNone w c
theorem RSoft.below {w w' : World} {k r c : Nat} (h : RSoft w k r c) (hb : Below w.heap.size w w') : RSoft w' k r c := ⟨heapOld hb h.1, heapOld hb h.2⟩
theorem RSoft.turn {w w' : World} {k r c : Nat} {D : Nat → Prop} (h : RSoft w k r c) (hT : Turn D w w') (hk : ¬ D k) (hc : ¬ D c) : RSoft w' k r c := ⟨hT.heap h.1 hk, hT.heap h.2 hc⟩
section
set_option maxHeartbeats 4000000
set_option maxRecDepth 20000 in
theorem rnew14_any (w : World) (r : Nat) : Calls Tryz.prog 63 #[pt r, .int .i64 0, .int .i64 0] w fun e w' => ∃ k c, e = .returned (.tuple #[pt k, .int .i64 0]) ∧ RSoft w' k r c ∧ w.heap.size ≤ k ∧ w.heap.size ≤ c ∧ Below w.heap.size w w' := by
  unfold pt
  go_enter Tryz.func63, Tryz.ntmps63
  go_wp2
  obtain ⟨W2, hW2⟩ : ∃ W, (w.alloc (.cells #[.slice none 0 0] 203)).alloc (.cells #[.pointer (some ⟨r, 0, none⟩), .int .i64 0, .int .i64 0, .pointer (some ⟨w.heap.size, 0, none⟩), .slice none 0 0] 121) = W := ⟨_, rfl⟩
  have h1 : W2.heap[w.heap.size]? = some (.cells #[.slice none 0 0] 203 (0, 0)) := by rw [← hW2]; exact heapOld (bl2 _) (heapNew w _)
  have h2 : W2.heap[w.heap.size + 1]? = some (.cells #[.pointer (some ⟨r, 0, none⟩), .int .i64 0, .int .i64 0, .pointer (some ⟨w.heap.size, 0, none⟩), .slice none 0 0] 121 (0, 0)) := by
    rw [← hW2]
    have := heapNew (w.alloc (.cells #[.slice none 0 0] 203)) (.cells #[.pointer (some ⟨r, 0, none⟩), .int .i64 0, .int .i64 0, .pointer (some ⟨w.heap.size, 0, none⟩), .slice none 0 0] 121)
    rw [show (w.alloc (.cells #[.slice none 0 0] 203)).heap.size = w.heap.size + 1 by simp] at this
    exact this
  have hb : Below w.heap.size w W2 := by rw [← hW2]; exact bl1 (bl2 _) _
  rw [hW2]
  go_ret2
  exact ⟨_, _, rfl, ⟨h2, h1⟩, by omega, Nat.le_refl _, hb⟩
set_option maxRecDepth 20000 in
theorem rread14_any {base top : Nat} {w : World} {k r c : Nat} {L : List ByteArray} (hs : RSoft w k r c) (h : RDisk base top w r L) {i : Nat} {s : ByteArray} (hi : L[i]? = some s) (h64 : s.size = 64) : Calls Tryz.prog 65 #[pt k, .int .i64 (i : Int)] w fun e w' => e = .returned (.tuple #[.string s, .int .i64 0]) ∧ w' = w := by
  have hrd := rread11_any h hi
  have hvw := rview_any hs.2 (i : Int) s h64
  have c0 := cellOf (k := 0) hs.1 rfl
  have c3 := cellOf (k := 3) hs.1 rfl
  unfold pt at hrd hvw c0 c3 ⊢
  have HRD := Lib.hid hrd
  have HVW := Lib.hid hvw
  clear hrd hvw
  clear hs h hi h64
  go_enter Tryz.func65, Tryz.ntmps65
  go_wp2_with fail
  refine HRD.out.mono ?_
  rintro e w1 ⟨rfl, rfl⟩
  go_wp2_with fail
  refine HVW.out.mono ?_
  rintro e w1 ⟨rfl, rfl⟩
  go_wp2
  first | exact ⟨rfl, rfl⟩ | (go_ret2; exact ⟨rfl, rfl⟩)
/-- What Lay of the reference answers, and the sectors behind it. -/
def layC (g : Sp.Geom) (L : List ByteArray) : Int := if g.ok ∧ (L.length : Int) = g.size then 0 else 4
def layL (g : Sp.Geom) (L : List ByteArray) : List ByteArray := if g.ok ∧ (L.length : Int) = g.size then formatL g else L
set_option maxRecDepth 20000 in
theorem rlay15_any {base top : Nat} {w : World} {r : Nat} {L : List ByteArray} (h : RDisk base top w r L) (g : Sp.Geom) : Calls Tryz.prog 13 #[pt r, gV g] w fun e w' => e = .returned (.int .i64 (layC g L)) ∧ RDisk base w'.heap.size w' r (layL g L) ∧ Turn (fun j => j = r) w w' := by
  have hfm := fun W : World => rformat_any W g
  unfold RFormatPost at hfm
  by_cases hg : g.ok
  · rw [Geom.check_ok hg, if_pos hg] at hfm
    have hF : (formatL g).length = g.size.toNat := formatL_length g
    have hz := Geom.size_bd hg
    by_cases hl : (L.length : Int) = g.size
    · have e1 : layC g L = 0 := if_pos ⟨hg, hl⟩
      have e2 : layL g L = formatL g := if_pos ⟨hg, hl⟩
      rw [e1, e2]
      obtain ⟨F, hFd⟩ : ∃ F, formatL g = F := ⟨_, rfl⟩
      rw [hFd] at hfm hF ⊢
      have hlen : F.length = L.length := by omega
      obtain ⟨ga, gb, gc⟩ := g
      unfold gV at hfm ⊢
      have HFM := Lib.hid hfm
      clear hfm
      clear e1 e2 hg hl hz hF hFd
      obtain ⟨W0, hW0⟩ : ∃ W, w.alloc (.cells #[.int .i64 ga, .int .i64 gb, .int .i64 gc] 23) = W := ⟨_, rfl⟩
      have hk := g_keep hW0
      have HB0 := Lib.hid hk.1
      have HK := Lib.hid hk.2
      clear hk
      obtain ⟨z0, z1, z2⟩ := HK.out W0 (Below.refl _ _)
      have HR := Lib.hid h
      unfold pt
      clear h
      go_enter Tryz.func13, Tryz.ntmps13
      go_wp2_with fail
      refine (HFM.out _).mono ?_
      rintro e w1 ⟨v, rfl, ho, hb1⟩
      have HB1 := Lib.hid (blN HB0.out hb1)
      obtain ⟨v0, hd0, ho0, ⟨hr1, hr2, hr3⟩, hne⟩ := RDisk.below HR.out HB1.out
      obtain ⟨ad, cap, rfl⟩ := OwnR.form ho
      rw [hlen] at ho ⊢
      obtain ⟨ad0, cap0, rfl⟩ := OwnR.form ho0
      have c0 := cellOf (k := 0) hd0 rfl
      have c1 := freeOf (k := 0) hd0
      have hq : ((L.length : Int) != (L.length : Int)) = false := by simp
      have hd1 := setHeap_at (k := 0) hd0 (.slice ad L.length cap)
      obtain ⟨W2, hW2⟩ : ∃ W, w1.setCell ⟨r, 0, none⟩ (.slice ad L.length cap) = W := ⟨_, rfl⟩
      rw [hW2] at hd1
      have HT : Hid (Turn (fun j => j = r) w W2) := by
        rw [← hW2]
        exact (Turn.of_below HB1.out).trans setCell_turn (fun _ _ h => h) (fun _ _ h => h)
      have hrw : r < w.heap.size := by obtain ⟨_, _, _, ⟨_, h, h'⟩, _⟩ := HR.out; omega
      have HD : Hid (RDisk base W2.heap.size W2 r F) := by
        have hT1 : Turn (fun j => j = r) w1 W2 := by rw [← hW2]; exact setCell_turn
        have hlt := fun q hq => OwnR.lt ho q hq
        have hsz : W2.heap.size = w1.heap.size := by rw [← hW2, World.size_setCell]
        have hbz := HB0.out.size
        refine ⟨_, hd1, (OwnR.turn ho hT1 (fun q hq e => by have := hlt q hq; omega)).mono (by omega), ⟨hr1, by omega, Nat.le_refl _⟩, fun q hq => by have := hlt q hq; omega⟩
      clear hd0 ho0 hr1 hr2 hr3 hne ho hb1 hd1
      go_wp2
      first | rw [hW2] | skip
      go_ret
      exact ⟨rfl, HD.out, HT.out⟩
    · have e1 : layC g L = 4 := if_neg (fun h => hl h.2)
      have e2 : layL g L = L := if_neg (fun h => hl h.2)
      rw [e1, e2]
      obtain ⟨F, hFd⟩ : ∃ F, formatL g = F := ⟨_, rfl⟩
      rw [hFd] at hfm hF
      have hlen : F.length ≠ L.length := by omega
      obtain ⟨ga, gb, gc⟩ := g
      unfold gV at hfm ⊢
      have HFM := Lib.hid hfm
      clear hfm
      clear e1 e2 hg hl hz hF hFd
      obtain ⟨W0, hW0⟩ : ∃ W, w.alloc (.cells #[.int .i64 ga, .int .i64 gb, .int .i64 gc] 23) = W := ⟨_, rfl⟩
      have hk := g_keep hW0
      have HB0 := Lib.hid hk.1
      have HK := Lib.hid hk.2
      clear hk
      obtain ⟨z0, z1, z2⟩ := HK.out W0 (Below.refl _ _)
      have HR := Lib.hid h
      unfold pt
      clear h
      go_enter Tryz.func13, Tryz.ntmps13
      go_wp2_with fail
      refine (HFM.out _).mono ?_
      rintro e w1 ⟨v, rfl, ho, hb1⟩
      have HB1 := Lib.hid (blN HB0.out hb1)
      obtain ⟨v0, hd0, ho0, -⟩ := RDisk.below HR.out HB1.out
      obtain ⟨ad, cap, rfl⟩ := OwnR.form ho
      obtain ⟨ad0, cap0, rfl⟩ := OwnR.form ho0
      have c0 := cellOf (k := 0) hd0 rfl
      have hq : ((F.length : Int) != (L.length : Int)) = true := bne_iff_ne.2 (by omega)
      clear hd0 ho0 ho hb1
      go_wp2
      go_ret
      exact ⟨rfl, RDisk.up (RDisk.below HR.out HB1.out), Turn.of_below HB1.out⟩
  · have e1 : layC g L = 4 := if_neg (fun h => hg h.1)
    have e2 : layL g L = L := if_neg (fun h => hg h.1)
    rw [Geom.check_no hg, if_neg hg] at hfm
    rw [e1, e2]
    obtain ⟨ga, gb, gc⟩ := g
    unfold gV at hfm ⊢
    have HFM := Lib.hid hfm
    clear hfm
    clear e1 e2 hg
    obtain ⟨W0, hW0⟩ : ∃ W, w.alloc (.cells #[.int .i64 ga, .int .i64 gb, .int .i64 gc] 23) = W := ⟨_, rfl⟩
    have hk := g_keep hW0
    have HB0 := Lib.hid hk.1
    have HK := Lib.hid hk.2
    clear hk
    obtain ⟨z0, z1, z2⟩ := HK.out W0 (Below.refl _ _)
    have HR := Lib.hid h
    unfold pt
    clear h
    go_enter Tryz.func13, Tryz.ntmps13
    go_wp2_with fail
    refine (HFM.out _).mono ?_
    rintro e w1 ⟨v, rfl, -, hb1⟩
    have HB1 := Lib.hid (blN HB0.out hb1)
    clear hb1
    go_wp2
    go_ret
    exact ⟨rfl, RDisk.up (RDisk.below HR.out HB1.out), Turn.of_below HB1.out⟩
end
end Go.Proofs.YtgofmnhfajmbfaaGreatDoor
