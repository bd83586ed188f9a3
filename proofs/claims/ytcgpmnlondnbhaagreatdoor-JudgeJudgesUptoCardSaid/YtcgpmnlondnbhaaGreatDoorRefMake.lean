/-
  The reference's walks: make.
-/
import Derived.Test.YtcgpmnlondnbhaaGreatDoorRefSet
import Derived.Deep.RegionLaw
namespace Go.Proofs.YtcgpmnlondnbhaaGreatDoor
open Go Go.RowKit Txt Sp

/-- What an operation answers and leaves. -/
def RefOp (base : Nat) (w : World) (D : Nat → Prop) (r : Nat) (x : Sp.Tree × Int) (e : Ending) (w' : World) : Prop := e = .returned (.int .i64 x.2) ∧ RefTo base w D r x.1 w'
theorem RefOp.same {base : Nat} {w w' : World} {D : Nat → Prop} {r : Nat} {t : Sp.Tree} {vT vN : Value} (h : RefAt base w D r t vT vN) (hb : Below w.heap.size w w') {x : Sp.Tree × Int} {c : Int} (hx : x = (t, c)) : RefOp base w D r x (.returned (.int .i64 c)) w' := by
  subst hx
  exact ⟨rfl, _, _, h.below hb, Turn.of_below hb⟩

/-- A path whose directory may be walked to. -/
theorem dir_zero {t : Sp.Tree} {path : ByteArray} (h : t.dirC path = 0) : ∃ l x i, splitN path = (l ++ [x], 0) ∧ t.walk [] l 0 = (i, 0) ∧ t.isDir i = true ∧ full path = l ++ [x] ∧ path = ofL (joinL (full path)) ∧ Sp.Good (full path) := by
  rcases dirTo t path with ⟨c, h1, h2, h3⟩ | ⟨l, x, c, h1, h2, h3, h4⟩ | ⟨l, x, i, h1, h2, h3, h4⟩ | ⟨l, x, i, h1, h2, h3, h4, h5, h6⟩
  · rw [h] at h3; subst h3; cases h2
  · rw [h] at h4; subst h4; cases h3
  · rw [h] at h4; cases h4
  · have hs : splitN path = (l ++ [x], 0) := by
      rcases lastN_cases path with ⟨c', e1, e2⟩ | ⟨l', x', e1, e2⟩
      · rw [h1] at e1
        cases e1
        cases e2
      · rw [h1] at e1
        cases e1
        exact e2
    refine ⟨l, x, i, hs, h2, h3, h5, ?_, ?_⟩
    · rw [h5]; exact path_text hs (by simp)
    · rw [h5]; exact (splitN_short hs).2

theorem Turn.next {K : Nat → Prop} {a b c : World} (h : Turn K a b) (g : Turn K b c) : Turn K a c := h.trans g (fun _ _ h => h) (fun _ _ h => h)
theorem turn_next {K : Nat → Prop} {a b c : World} (h : Below a.heap.size a b) (g : Turn K b c) : Turn K a c := (Turn.of_below h).next g
theorem heap_two_b (WM : World) (A B : Obj) : ((WM.alloc A).alloc B).drew.heap[WM.heap.size + 1]? = some B := by
  have h := heap_alloc_new (WM.alloc A) B
  have e : (WM.alloc A).heap.size = WM.heap.size + 1 := by simp
  rw [e] at h
  exact h
theorem heap_two_a (WM : World) (A B : Obj) : ((WM.alloc B).alloc A).drew.heap[WM.heap.size]? = some B := (heap_alloc_old (WM.alloc B) A (show WM.heap.size < (WM.alloc B).heap.size by simp)).trans (heap_alloc_new WM B)
theorem own_lit0 (WM : World) {W : World} (e : TypeId) {size : Nat} (g : Nat) (hg : WM.heap.size ≤ g) (h : W.heap[g]? = some (.cells #[] e (0, 0))) : W.ownsRow WM.heap.size e size (.slice (some ⟨g, 0, none⟩) 0 0) 0 [] :=
  ⟨by simp, .inr ⟨g, 0, #[], rfl, hg, h, Nat.le_refl _, Nat.zero_le _, by simp, by simp⟩⟩
section
set_option maxHeartbeats 8000000
variable {base : Nat} {w : World} {D : Nat → Prop} {r : Nat} {t : Sp.Tree} {vT vN : Value}
set_option maxRecDepth 20000 in
theorem rmake_any (h : RefAt base w D r t vT vN) (hok : t.Ok) (hf : Few t) (path : ByteArray) (dir : Bool) (hs : path.size ≤ 4000000000) :
    Calls Tryz.prog 35 #[ptr r, .string path, .bool dir] w (RefOp base w D r (t.make path dir)) := by
  obtain ⟨i0, hi, hz0, hz1, hz2⟩ := info_parts infoThing
  obtain ⟨gT, cT, rfl⟩ := h.shape hok
  have HR := Lib.hid h
  have HOK := Lib.hid hok
  have HF := Lib.hid hf
  clear h hok hf
  unfold ptr
  obtain ⟨c, hc⟩ : ∃ c, t.dirC path = c := ⟨_, rfl⟩
  by_cases hc0 : c = 0
  rotate_left
  · have q0 : (c == 0) = false := beq_eq_false_iff_ne.2 hc0
    have q1 : (c != 0) = true := by simp [bne, q0]
    have HM : Hid (t.make path dir = (t, c)) := by show t.make path dir = _; unfold Sp.Tree.make; rw [hc, if_neg hc0]
    have HC := Lib.hid hc
    clear hc hc0
    go_enter Tryz.func35, Tryz.ntmps35
    go_wp2_with fail
    refine (rdir_any HR.out HOK.out HF.out path hs).mono ?_
    rintro e w1 ⟨rfl, hb⟩
    rw [HC.out]
    have HB := Lib.hid hb
    clear hb
    go_wp2
    go_ret
    exact RefOp.same HR.out HB.out HM.out
  subst hc0
  obtain ⟨l, x, ip, hsp, hw, hd, hfull, htxt, hgood⟩ := dir_zero hc
  have HC := Lib.hid hc
  have HT := Lib.hid htxt
  have HG := Lib.hid hgood
  cases hfd : t.find (full path) with
  | some i =>
    have HM : Hid (t.make path dir = (t, 101)) := by show t.make path dir = _; unfold Sp.Tree.make; rw [hc, hfd]; rfl
    have HFd := Lib.hid hfd
    clear hc htxt hgood hsp hw hd hfull hfd
    go_enter Tryz.func35, Tryz.ntmps35
    go_wp2_with fail
    refine (rdir_any HR.out HOK.out HF.out path hs).mono ?_
    rintro e w1 ⟨rfl, hb⟩
    rw [HC.out]
    have HB := Lib.hid hb
    clear hb
    go_wp2_with fail
    obtain ⟨k, hk, hcall⟩ := rname_some (HR.out.below HB.out) HOK.out HF.out.names HFd.out HT.out
    refine hcall.mono ?_
    rintro e w2 ⟨rfl, rfl⟩
    clear hcall hk
    go_wp2
    go_ret
    exact RefOp.same HR.out HB.out HM.out
  | none =>
    have HM : Hid (t.make path dir = (⟨t.names ++ [(full path, t.many + 1)], t.things ++ [(t.many + 1, dir, ofL [])], t.many + 1⟩, 0)) := by show t.make path dir = _; unfold Sp.Tree.make; rw [hc, hfd]; rfl
    have HFd := Lib.hid hfd
    clear hc htxt hgood hsp hw hd hfull hfd
    go_enter Tryz.func35, Tryz.ntmps35
    go_wp2_with fail
    refine (rdir_any HR.out HOK.out HF.out path hs).mono ?_
    rintro e w1 ⟨rfl, hb⟩
    rw [HC.out]
    have HB := Lib.hid hb
    clear hb
    go_wp2_with fail
    refine (rname_none (HR.out.below HB.out) HOK.out HF.out.names HG.out HFd.out HT.out).mono ?_
    rintro e w2 ⟨rfl, rfl⟩
    have hR1 := HR.out.below HB.out
    obtain ⟨_, _, m0⟩ := hR1.cells
    obtain ⟨_, _, m1⟩ := hR1.free
    obtain ⟨mm, hmm⟩ : ∃ mm, t.many = mm := ⟨_, rfl⟩
    have hm6 : mm ≤ 1000000 := by rw [← hmm]; exact HF.out.many
    obtain ⟨WM, hWM⟩ : ∃ W, w1.setCell ⟨r, 2, none⟩ (.int .i64 ((mm : Int) + 1)) = W := ⟨_, rfl⟩
    have hRM := hR1.setM (Below.refl _ _) (t.many + 1)
    rw [hmm, show ((mm + 1 : Nat) : Int) = (mm : Int) + 1 from rfl, hWM] at hRM
    have HTM := Lib.hid hRM.2
    have HRM := Lib.hid hRM.1
    obtain ⟨c0, _, c2⟩ := hRM.1.cells
    obtain ⟨f0, _, _⟩ := hRM.1.free
    obtain ⟨n, hn⟩ : ∃ n, t.things.length = n := ⟨_, rfl⟩
    have HN := Lib.hid hn
    have HMm := Lib.hid hmm
    rw [hmm] at m0
    rw [hn] at c0
    clear hR1 hRM hmm hn
    go_wp2_with fail
    have hrl := HRM.out.lt
    obtain ⟨L1, hL1⟩ : ∃ L1, t.things.flatMap thingC = L1 := ⟨_, rfl⟩
    have hsrc0 := HRM.out.things
    have HLen : Hid (L1.length = n * 3) := by show L1.length = n * 3; rw [← hL1, flat_length thingC_len, HN.out]
    have HOne : Hid (∀ u ∈ L1, u.oneCell' = true) := by rw [← hL1]; exact things_one _
    have HSrc : Hid (∀ W, Below WM.heap.size WM W → ∀ a, some (⟨gT, 0, none⟩ : Addr) = some a → ∀ j u, L1[j]? = some u → W.cell? (a.add j) = some u) := fun W hW a ha j u hu => by
      cases ha
      rw [hW.cell (p := (⟨gT, 0, none⟩ : Addr).add j) (by rw [add_block]; exact (hsrc0.lt gT rfl).2)]
      rw [← hL1] at hu
      exact hsrc0.cells rfl j u hu
    have HL1 := Lib.hid hL1
    have hn6 : n ≤ 1000000 := by rw [← HN.out]; exact HF.out.things
    have hne0 : WM.heap.size ≠ r := by omega
    have hne1 : WM.heap.size + 1 ≠ r := by omega
    have hne2 : r ≠ WM.heap.size := by omega
    have hne3 : r ≠ WM.heap.size + 1 := by omega
    clear hL1 hsrc0
    go_region_law (first
      | (refine step_append_src _ (by rfl) (.tmp 26) (.tmp 30) 62 (by rfl) WM.heap.size 61 i0 _ 3 32 Tryz.underlying62 hi hz0 hz1 hz2 (by rfl) (by decide) _ 0 0 [] (by rfl) (own_lit0 WM _ _ (by simp) (by first | exact heap_alloc_new _ _ | exact heap_two_a _ _ _ | exact heap_two_b _ _ _)) (some ⟨gT, 0, none⟩) n cT (by rfl) (fun h => by cases h) L1 HLen.out (HSrc.out _ (by repeat' first | exact Below.refl _ _ | exact HB1.out | refine below_al ?_ _ | refine below_dr ?_)) HOne.out (by unfold maxLen; omega) (by omega) ((by repeat' first | exact Below.refl _ _ | exact HB1.out | refine below_al ?_ _ | refine below_dr ?_) : Below WM.heap.size WM _).size ?_
         intro g1 cap1 w3 hown1 hgrow1 hat1
         have HB1 : Hid (Below WM.heap.size WM w3) := Below.grown ((by repeat' first | exact Below.refl _ _ | exact HB1.out | refine below_al ?_ _ | refine below_dr ?_) : Below WM.heap.size WM _) hgrow1 ((by repeat' first | exact Below.refl _ _ | exact HB1.out | refine below_al ?_ _ | refine below_dr ?_) : Below WM.heap.size WM _).size (fun k hk => by cases hk; omega)
         have HOwn1 : Hid (w3.ownsRow WM.heap.size 61 3 (.slice (some ⟨g1, 0, none⟩) n cap1) n L1) := (by rw [Nat.zero_add, List.nil_append] at hown1; exact hown1)
         have HGrow1 := Lib.hid hgrow1
         have c0a : w3.cell? ⟨r, 0, none⟩ = _ := (HB1.out.cell (p := ⟨r, 0, none⟩) hrl).trans c0
         have c2a : w3.cell? ⟨r, 2, none⟩ = _ := (HB1.out.cell (p := ⟨r, 2, none⟩) hrl).trans c2
         have hne4 : w3.heap.size ≠ r := by have := HB1.out.size; omega
         have hne5 : r ≠ w3.heap.size := by have := HB1.out.size; omega
         clear hown1 hgrow1 hat1)
      | (refine step_append_lies _ (by rfl) (.tmp 31) (.tmp 38) 62 (by rfl) WM.heap.size 61 i0 _ 3 32 Tryz.underlying62 hi hz0 hz1 hz2 (by rfl) (by decide) _ n L1 (by rfl) (by first | exact HOwn1.out | exact HOwn1.out.alloc _) _ 1 1 [.int .i64 ((mm : Int) + 1), .bool dir, .string ⟨#[]⟩] (by rfl) (by rfl) (by first | exact World.news_of_block (cs := #[.int .i64 ((mm : Int) + 1), .bool dir, .string ⟨#[]⟩]) (heap_alloc_new w3 _) | (refine World.news_of_block (cs := #[.int .i64 ((mm : Int) + 1), .bool dir, .string ⟨#[]⟩]) (t := 61) (fr := (0, 0)) ?_; rw [HGrow1.out.block _ (by simp <;> omega) (by simp)]; first | exact heap_two_a _ _ _ | exact heap_two_b _ _ _)) (by simp [Value.oneCell']) (by decide) (by unfold maxLen; omega) (by omega) ((by repeat' first | exact Below.refl _ _ | exact HB1.out | refine below_al ?_ _ | refine below_dr ?_) : Below WM.heap.size WM _).size _ rfl ?_
         intro g2 cap2 w4 hown2 hgrow2 hat2 hlt2
         have hb2 : Below WM.heap.size WM w4 := Below.grown ((by repeat' first | exact Below.refl _ _ | exact HB1.out | refine below_al ?_ _ | refine below_dr ?_) : Below WM.heap.size WM _) hgrow2 ((by repeat' first | exact Below.refl _ _ | exact HB1.out | refine below_al ?_ _ | refine below_dr ?_) : Below WM.heap.size WM _).size (fun k hk => (HOwn1.out.lt k hk).1)
         have hta : ThingsAt WM.heap.size w4 (.slice (some ⟨g2, 0, none⟩) (n + 1) cap2) (t.things ++ [(mm + 1, dir, ofL [])]) := (by
          unfold ThingsAt
          rw [List.length_append, List.length_singleton, HN.out, List.flatMap_append, HL1.out]
          exact hown2)
         have hset := HRM.out.setT hb2 hta
         obtain ⟨W3, hW3⟩ : ∃ W, w4.setCell ⟨r, 0, none⟩ (.slice (some ⟨g2, 0, none⟩) (n + 1) cap2) = W := ⟨_, rfl⟩
         rw [hW3] at hset
         have HE := Lib.hid hset
         have c0b : w4.cell? ⟨r, 0, none⟩ = _ := (hb2.cell (p := ⟨r, 0, none⟩) hrl).trans c0
         have f0b : w4.frozen? ⟨r, 0, none⟩ = _ := (hb2.frozen (p := ⟨r, 0, none⟩) hrl).trans f0
         clear hown2 hgrow2 hat2 hlt2 hb2 hta hset))
    all_goals
      obtain ⟨_, _, c2c⟩ := HE.out.1.cells
      simp only at c2c
      go_wp2_with fail
      refine (rstand_any HE.out.1 HF.out.names HT.out (mm + 1)).mono ?_
      rintro e w5 ⟨rfl, vT5, vN5, hA, hTu⟩
      have HA := Lib.hid hA
      have HTu := Lib.hid (turn_next HB.out (HTM.out.next (HE.out.2.next hTu)))
      clear hA hTu
      go_wp2
      go_ret
      unfold RefOp
      rw [HM.out, HMm.out]
      exact ⟨rfl, _, _, HA.out, HTu.out⟩
end
end Go.Proofs.YtcgpmnlondnbhaaGreatDoor
