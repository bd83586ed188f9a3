/-
  Walks of layer 15: wrong, look, set.
-/
import Derived.Test.YtghafpdmcbockaaGreatDoorMapTaken
namespace Go.Proofs.YtghafpdmcbockaaGreatDoor
open Go Go.RowKit Txt Sp

theorem eql_soft_nil (w : World) (a : Addr) : (binOp .eql 26 (.pointer (some a)) (.pointer none)).run Tryz.prog w = .ok (.bool false) w := by
  have hp : Tryz.prog.underlying 26 = some (.pointer 129) := by kernel_rfl
  have h : ∀ d : Nat, (Op.equalIn (d + 1) 26 (.pointer (some a)) (.pointer none)).run Tryz.prog w = .ok false w := fun d => by
    simp [Op.equalIn, run_underlying hp]
  simp only [binOp]
  simp [Op.equal, Op.maxDepth, h 9999]
section
set_option maxHeartbeats 4000000
set_option maxRecDepth 20000 in
theorem awrong_any (w : World) (B : Nat) (g : Sp.Geom) (hg : g.ok) (v : Value) (ks : List Int) (hv : Ints w v ks) (hks : ∀ k ∈ ks, 0 ≤ k ∧ k < g.groups) :
    Calls Tryz.prog 38 #[pt B, gV g, v] w fun e w' => e = .returned (.int .i64 0) ∧ Below w.heap.size w w' := by
  have hch := fun W : World => gcheck_any W g
  rw [Geom.check_ok hg] at hch
  have heq := eql_soft_nil
  obtain ⟨ad, len, cap, rfl, HN, hn2, HF⟩ := RowAt.facts hv
  clear hv hg
  obtain ⟨ga, gb, gc⟩ := g
  simp only at hks
  unfold gV at hch ⊢
  unfold pt
  obtain ⟨W0, hW0⟩ : ∃ W, w.alloc (.cells #[.int .i64 ga, .int .i64 gb, .int .i64 gc] 23) = W := ⟨_, rfl⟩
  have hk := g_keep hW0
  have HB0 := Lib.hid hk.1
  have HK := Lib.hid hk.2
  clear hk
  have HCH := Lib.hid hch
  have HKS := Lib.hid hks
  clear hch hks
  obtain ⟨z0, z1, z2⟩ := HK.out W0 (Below.refl _ _)
  go_enter Tryz.func38, Tryz.ntmps38
  go_wp2_with fail
  clear z0 z1 z2
  refine (HCH.out _).mono ?_
  rintro e w1 ⟨rfl, hb1⟩
  have HB1 : Hid (Below W0.heap.size W0 w1) := hb1
  clear hb1
  obtain ⟨z0, z1, z2⟩ := HK.out w1 HB1.out
  go_wp2
  go_loopw [19] (fun i wr => wr = w1 ∧ ∃ k : Nat, k ≤ len ∧ i = .int .i64 (k : Int)) (fun i _ => len - (intOf i).toNat)
  case atStart => exact ⟨rfl, 0, Nat.zero_le _, rfl⟩
  case round =>
    obtain ⟨rfl, k, hk, rfl⟩ := hrel
    by_cases hlt : k < len
    · obtain ⟨b, o, x, rfl, hb, hx, hc⟩ := HF.out k hlt
      have c0 : wr.cell? ⟨b, o + k, none⟩ = some (.int .i64 x) := by
        have h := ((blN HB0.out HB1.out).cell (p := ⟨b, o + k * 1 + 0, none⟩) hb).trans (hc 0 _ rfl)
        simpa using h
      have hin := HKS.out x (List.mem_of_getElem? hx)
      have q1 : decide (x < 0) = false := decide_eq_false (by omega)
      have q2 : decide (x ≥ ga) = false := decide_eq_false (by omega)
      go_wp2
      go_roundw
      case rel => exact ⟨trivial, k + 1, by omega, by go_num⟩
      case measure => simp [intOf]; omega
    · obtain rfl : k = len := by omega
      go_wp2
      go_ret
      exact ⟨rfl, blN HB0.out HB1.out⟩
/-- A chart of a map. -/
def chartV (B : Nat) (g : Sp.Geom) (k : Int) (b : Bool) (s : ByteArray) : Value := .agg #[pt B, .int .i64 (mapAtG g k b), .string s, .int .i64 (manyG g b)]
def LookPost (B : Nat) (S : Sp.Side) (g : Sp.Geom) (k : Int) (b : Bool) (w : World) (e : Ending) (w' : World) : Prop :=
  (match S.look g k b with
  | some s => e = .returned (.tuple #[chartV B g k b s, .int .i64 0])
  | none => e = .returned (.tuple #[.agg #[.pointer none, .int .i64 0, .string ⟨#[]⟩, .int .i64 0], .int .i64 180])) ∧ Below w.heap.size w w'
theorem mapAt_in {g : Sp.Geom} (hg : g.ok) {k : Int} (hk : 0 ≤ k ∧ k < g.groups) (b : Bool) : mapAt g k b = (mapAtG g k b, 0) := by
  have hw : g.within k g.groups = 0 := by unfold Geom.within; rw [if_pos hg, if_neg (by omega)]
  unfold mapAt
  rw [if_pos hw]
  rfl
set_option maxRecDepth 20000 in
theorem alook_any {w : World} {base B Bd : Nat} {S : Sp.Side} {D : Nat → Prop} (h : SideAt w base B Bd S D) (hS : S.Ok) {g : Sp.Geom} (hg : g.ok) {k : Int} (hk : 0 ≤ k ∧ k < g.groups) (b : Bool) :
    Calls Tryz.prog 44 #[pt B, gV g, .int .i64 k, .bool b] w (LookPost B S g k b w) := by
  have hm := fun W : World => gmap_any W g k b
  rw [mapAt_in hg hk b] at hm
  have hr := fun (W : World) (hW : Below w.heap.size w W) => softRead_any (h.below hW) hS (mapAtG g k b)
  have hc := fun W : World => mcheck_any W (S.read (mapAtG g k b)) (manyG g b)
  have hP : ∀ e w', (if S.disk.has (mapAtG g k b) ∧ mapC (S.read (mapAtG g k b)) (manyG g b) = 0 then e = .returned (.tuple #[chartV B g k b (S.read (mapAtG g k b)), .int .i64 0]) else e = .returned (.tuple #[.agg #[.pointer none, .int .i64 0, .string ⟨#[]⟩, .int .i64 0], .int .i64 180])) → Below w.heap.size w w' → LookPost B S g k b w e w' := by
    intro e w' he hb
    unfold LookPost Side.look
    split at he
    · rename_i hh
      rw [if_pos hh]
      exact ⟨he, hb⟩
    · rename_i hh
      rw [if_neg hh]
      exact ⟨he, hb⟩
  have hrc : S.readC (mapAtG g k b) = if S.disk.has (mapAtG g k b) then 0 else 1 := rfl
  unfold chartV at hP
  have hmany : manyG g b = if b then g.blocks else g.inodes := rfl
  obtain ⟨a, ha⟩ : ∃ a, mapAtG g k b = a := ⟨_, rfl⟩
  rw [ha] at hm hr hc hP hrc
  obtain ⟨t, ht⟩ : ∃ t, S.read a = t := ⟨_, rfl⟩
  rw [ht] at hr hc hP
  obtain ⟨rc, hrcd⟩ : ∃ c, S.readC a = c := ⟨_, rfl⟩
  rw [hrcd] at hr hrc
  obtain ⟨n, hn⟩ : ∃ n, manyG g b = n := ⟨_, rfl⟩
  rw [hn] at hc hP hmany
  obtain ⟨mc, hmc⟩ : ∃ c, mapC t n = c := ⟨_, rfl⟩
  rw [hmc] at hc hP
  obtain ⟨Q, hQ⟩ : ∃ Q, LookPost B S g k b w = Q := ⟨_, rfl⟩
  rw [hQ] at hP ⊢
  obtain ⟨ga, gb, gc⟩ := g
  simp only at hmany
  unfold gV at hm ⊢
  unfold pt at hr hP ⊢
  have HM := Lib.hid hm
  have HR := Lib.hid hr
  have HC := Lib.hid hc
  have HP := Lib.hid hP
  have HRC := Lib.hid hrc
  clear hm hr hc hP hrc
  clear ha ht hrcd hn hmc hQ h hS hg hk
  obtain ⟨W0, hW0⟩ : ∃ W, ((w.alloc (.cells #[.int .i64 ga, .int .i64 gb, .int .i64 gc] 23)).alloc (.cells #[.pointer none, .int .i64 0, .string ⟨#[]⟩, .int .i64 0] 81)).alloc (.cells #[.pointer (some ⟨B, 0, none⟩), .int .i64 0, .string ⟨#[]⟩, .int .i64 gb] 81) = W := ⟨_, rfl⟩
  have HB0 : Hid (Below w.heap.size w W0) := by rw [← hW0]; exact bl1 (bl1 (bl2 _) _) _
  have HG0 : Hid (W0.heap[w.heap.size]? = some (.cells #[.int .i64 ga, .int .i64 gb, .int .i64 gc] 23 (0, 0))) := by
    rw [← hW0]
    exact heapOld (bl2 _) (heapOld (bl2 _) (heapNew w _))
  have HZ0 : Hid (W0.heap[w.heap.size + 1]? = some (.cells #[.pointer none, .int .i64 0, .string ⟨#[]⟩, .int .i64 0] 81 (0, 0))) := by
    rw [← hW0]
    have := heapNew (w.alloc (.cells #[.int .i64 ga, .int .i64 gb, .int .i64 gc] 23)) (.cells #[.pointer none, .int .i64 0, .string ⟨#[]⟩, .int .i64 0] 81)
    simp only [World.size_alloc] at this
    exact heapOld (bl2 _) this
  have HC0 : Hid (W0.heap[w.heap.size + 1 + 1]? = some (.cells #[.pointer (some ⟨B, 0, none⟩), .int .i64 0, .string ⟨#[]⟩, .int .i64 gb] 81 (0, 0))) := by
    rw [← hW0]
    have := heapNew ((w.alloc (.cells #[.int .i64 ga, .int .i64 gb, .int .i64 gc] 23)).alloc (.cells #[.pointer none, .int .i64 0, .string ⟨#[]⟩, .int .i64 0] 81)) (.cells #[.pointer (some ⟨B, 0, none⟩), .int .i64 0, .string ⟨#[]⟩, .int .i64 gb] 81)
    simp only [World.size_alloc] at this
    exact this
  cases b with
  | false =>
    have e1 : n = gb := hmany
    subst e1
    clear hmany
    have z0 := cellOf (k := 0) HG0.out rfl
    have z1 := cellOf (k := 1) HG0.out rfl
    have z2 := cellOf (k := 2) HG0.out rfl
    go_enter Tryz.func44, Tryz.ntmps44
    go_wp2_with fail
    clear hW0 z0 z1 z2
    have HBx := HB0
    have HCx := HC0
    have HZx := HZ0
    refine (HM.out _).mono ?_
    rintro e w1 ⟨rfl, hb1⟩
    have HB1 := Lib.hid (blN HBx.out hb1)
    have HC1 := Lib.hid (heapOld hb1 HCx.out)
    have HZ1 := Lib.hid (heapOld hb1 HZx.out)
    clear hb1
    have c1 := cellOf (k := 1) HC1.out rfl
    have f1 : w1.frozen? ⟨w.heap.size + 1 + 1, 1, none⟩ = false := freeOf HC1.out
    obtain ⟨W2, hW2⟩ : ∃ W, w1.setCell ⟨w.heap.size + 1 + 1, 1, none⟩ (.int .i64 a) = W := ⟨_, rfl⟩
    have HB2 : Hid (Below w.heap.size w W2) := by rw [← hW2]; exact HB1.out.setCell (by show w.heap.size ≤ w.heap.size + 1 + 1; omega) _
    have HC2 : Hid (W2.heap[w.heap.size + 1 + 1]? = some (.cells #[.pointer (some ⟨B, 0, none⟩), .int .i64 a, .string ⟨#[]⟩, .int .i64 n] 81 (0, 0))) := by rw [← hW2]; exact setHeap_at (k := 1) HC1.out _
    have HZ2 : Hid (W2.heap[w.heap.size + 1]? = some (.cells #[.pointer none, .int .i64 0, .string ⟨#[]⟩, .int .i64 0] 81 (0, 0))) := by rw [← hW2]; exact setCell_turn.heap HZ1.out (by omega)
    have c2 := cellOf (k := 1) HC2.out rfl
    go_wp2_with fail
    clear c1 f1 c2 hW2
    refine (HR.out _ HB2.out).mono ?_
    rintro e w3 ⟨rfl, hb3⟩
    have HB3 := Lib.hid (blN HB2.out hb3)
    have HC3 := Lib.hid (heapOld hb3 HC2.out)
    have HZ3 := Lib.hid (heapOld hb3 HZ2.out)
    clear hb3
    have c1 := cellOf (k := 2) HC3.out rfl
    have f1 : w3.frozen? ⟨w.heap.size + 1 + 1, 2, none⟩ = false := freeOf HC3.out
    obtain ⟨W4, hW4⟩ : ∃ W, w3.setCell ⟨w.heap.size + 1 + 1, 2, none⟩ (.string t) = W := ⟨_, rfl⟩
    have HB4 : Hid (Below w.heap.size w W4) := by rw [← hW4]; exact HB3.out.setCell (by show w.heap.size ≤ w.heap.size + 1 + 1; omega) _
    have HC4 : Hid (W4.heap[w.heap.size + 1 + 1]? = some (.cells #[.pointer (some ⟨B, 0, none⟩), .int .i64 a, .string t, .int .i64 n] 81 (0, 0))) := by rw [← hW4]; exact setHeap_at (k := 2) HC3.out _
    have HZ4 : Hid (W4.heap[w.heap.size + 1]? = some (.cells #[.pointer none, .int .i64 0, .string ⟨#[]⟩, .int .i64 0] 81 (0, 0))) := by rw [← hW4]; exact setCell_turn.heap HZ3.out (by omega)
    have c2 := cellOf (k := 2) HC4.out rfl
    have c3 := cellOf (k := 3) HC4.out rfl
    have hrc := HRC.out
    by_cases hh : S.disk.has a
    · rw [if_pos hh] at hrc
      subst hrc
      by_cases hm0 : mc = 0
      · subst hm0
        have HE : Hid (∀ w', Below w.heap.size w w' → Q (.returned (.tuple #[.agg #[.pointer (some ⟨B, 0, none⟩), .int .i64 a, .string t, .int .i64 n], .int .i64 0])) w') := fun w' hb => HP.out _ w' (by rw [if_pos ⟨hh, rfl⟩]) hb
        clear hh HP
        go_wp2_with fail
        clear c1 f1 c2 c3 hW4
        refine (HC.out _).mono ?_
        rintro e w5 ⟨rfl, hb5⟩
        have HB5 := Lib.hid (blN HB4.out hb5)
        have hc5 := heapOld hb5 HC4.out
        have hz5 := heapOld hb5 HZ4.out
        clear hb5
        have k0 := cellOf (k := 0) hc5 rfl
        have k1 := cellOf (k := 1) hc5 rfl
        have k2 := cellOf (k := 2) hc5 rfl
        have k3 := cellOf (k := 3) hc5 rfl
        have HZ5 := Lib.hid hz5
        have y0 := cellOf (k := 0) hz5 rfl
        have y1 := cellOf (k := 1) hz5 rfl
        have y2 := cellOf (k := 2) hz5 rfl
        have y3 := cellOf (k := 3) hz5 rfl
        have v0 : w5.frozen? ⟨w.heap.size + 1, 0, none⟩ = false := freeOf hz5
        have v1 : w5.frozen? ⟨w.heap.size + 1, 1, none⟩ = false := freeOf hz5
        have v2 : w5.frozen? ⟨w.heap.size + 1, 2, none⟩ = false := freeOf hz5
        have v3 : w5.frozen? ⟨w.heap.size + 1, 3, none⟩ = false := freeOf hz5
        go_wp2
        obtain ⟨Wf, hWf⟩ : ∃ W, (((w5.setCell ⟨w.heap.size + 1, 0, none⟩ (.pointer (some ⟨B, 0, none⟩))).setCell ⟨w.heap.size + 1, 1, none⟩ (.int .i64 a)).setCell ⟨w.heap.size + 1, 2, none⟩ (.string t)).setCell ⟨w.heap.size + 1, 3, none⟩ (.int .i64 n) = W := ⟨_, rfl⟩
        have hbf : Below w.heap.size w Wf := by rw [← hWf]; exact sets_below (by omega) [.pointer (some ⟨B, 0, none⟩), .int .i64 a, .string t, .int .i64 n] 0 _ HB5.out
        have hzf : Wf.heap[w.heap.size + 1]? = some (.cells #[.pointer (some ⟨B, 0, none⟩), .int .i64 a, .string t, .int .i64 n] 81 (0, 0)) := by rw [← hWf]; exact sets_all (vs := [.pointer (some ⟨B, 0, none⟩), .int .i64 a, .string t, .int .i64 n]) HZ5.out rfl
        rw [hWf]
        have y0 := cellOf (k := 0) hzf rfl
        have y1 := cellOf (k := 1) hzf rfl
        have y2 := cellOf (k := 2) hzf rfl
        have y3 := cellOf (k := 3) hzf rfl
        refine bodyPost_ret (v := .tuple #[.agg #[.pointer (some ⟨B, 0, none⟩), .int .i64 a, .string t, .int .i64 n], .int .i64 0]) (by simp [results, Tryz.results44, go_sem, y0, y1, y2, y3]) rfl ?_
        exact HE.out _ hbf
      · have HE : Hid (∀ w', Below w.heap.size w w' → Q (.returned (.tuple #[.agg #[.pointer none, .int .i64 0, .string ⟨#[]⟩, .int .i64 0], .int .i64 180])) w') := fun w' hb => HP.out _ w' (by rw [if_neg (fun h => hm0 h.2)]) hb
        have q1 : (mc != 0) = true := by simp [hm0]
        have q2 : (mc == 0) = false := beq_eq_false_iff_ne.2 hm0
        clear hh HP hm0
        go_wp2_with fail
        clear c1 f1 c2 c3 hW4
        refine (HC.out _).mono ?_
        rintro e w5 ⟨rfl, hb5⟩
        have HB5 := Lib.hid (blN HB4.out hb5)
        have hz5 := heapOld hb5 HZ4.out
        clear hb5
        have HZ5 := Lib.hid hz5
        have y0 := cellOf (k := 0) hz5 rfl
        have y1 := cellOf (k := 1) hz5 rfl
        have y2 := cellOf (k := 2) hz5 rfl
        have y3 := cellOf (k := 3) hz5 rfl
        have v0 : w5.frozen? ⟨w.heap.size + 1, 0, none⟩ = false := freeOf hz5
        have v1 : w5.frozen? ⟨w.heap.size + 1, 1, none⟩ = false := freeOf hz5
        have v2 : w5.frozen? ⟨w.heap.size + 1, 2, none⟩ = false := freeOf hz5
        have v3 : w5.frozen? ⟨w.heap.size + 1, 3, none⟩ = false := freeOf hz5
        go_wp2
        obtain ⟨Wf, hWf⟩ : ∃ W, (((w5.setCell ⟨w.heap.size + 1, 0, none⟩ (.pointer none)).setCell ⟨w.heap.size + 1, 1, none⟩ (.int .i64 0)).setCell ⟨w.heap.size + 1, 2, none⟩ (.string ⟨#[]⟩)).setCell ⟨w.heap.size + 1, 3, none⟩ (.int .i64 0) = W := ⟨_, rfl⟩
        have hbf : Below w.heap.size w Wf := by rw [← hWf]; exact sets_below (by omega) [.pointer none, .int .i64 0, .string ⟨#[]⟩, .int .i64 0] 0 _ HB5.out
        have hzf : Wf.heap[w.heap.size + 1]? = some (.cells #[.pointer none, .int .i64 0, .string ⟨#[]⟩, .int .i64 0] 81 (0, 0)) := by rw [← hWf]; exact sets_all (vs := [.pointer none, .int .i64 0, .string ⟨#[]⟩, .int .i64 0]) HZ5.out rfl
        rw [hWf]
        clear y0 y1 y2 y3
        have y0 := cellOf (k := 0) hzf rfl
        have y1 := cellOf (k := 1) hzf rfl
        have y2 := cellOf (k := 2) hzf rfl
        have y3 := cellOf (k := 3) hzf rfl
        refine bodyPost_ret (v := .tuple #[.agg #[.pointer none, .int .i64 0, .string ⟨#[]⟩, .int .i64 0], .int .i64 180]) (by simp [results, Tryz.results44, go_sem, y0, y1, y2, y3]) rfl ?_
        exact HE.out _ hbf
    · rw [if_neg hh] at hrc
      subst hrc
      have HE : Hid (∀ w', Below w.heap.size w w' → Q (.returned (.tuple #[.agg #[.pointer none, .int .i64 0, .string ⟨#[]⟩, .int .i64 0], .int .i64 180])) w') := fun w' hb => HP.out _ w' (by rw [if_neg (fun h => hh h.1)]) hb
      clear hh HP
      have hz5 := HZ4.out
      obtain ⟨w5, hw5⟩ : ∃ W, W4 = W := ⟨_, rfl⟩
      have HB5 : Hid (Below w.heap.size w w5) := by rw [← hw5]; exact HB4.out
      rw [hw5] at hz5 hW4
      have HZ5 := Lib.hid hz5
      have y0 := cellOf (k := 0) hz5 rfl
      have y1 := cellOf (k := 1) hz5 rfl
      have y2 := cellOf (k := 2) hz5 rfl
      have y3 := cellOf (k := 3) hz5 rfl
      have v0 : w5.frozen? ⟨w.heap.size + 1, 0, none⟩ = false := freeOf hz5
      have v1 : w5.frozen? ⟨w.heap.size + 1, 1, none⟩ = false := freeOf hz5
      have v2 : w5.frozen? ⟨w.heap.size + 1, 2, none⟩ = false := freeOf hz5
      have v3 : w5.frozen? ⟨w.heap.size + 1, 3, none⟩ = false := freeOf hz5
      go_wp2
      clear c1 f1 c2 c3 hW4 hw5
      obtain ⟨Wf, hWf⟩ : ∃ W, (((w5.setCell ⟨w.heap.size + 1, 0, none⟩ (.pointer none)).setCell ⟨w.heap.size + 1, 1, none⟩ (.int .i64 0)).setCell ⟨w.heap.size + 1, 2, none⟩ (.string ⟨#[]⟩)).setCell ⟨w.heap.size + 1, 3, none⟩ (.int .i64 0) = W := ⟨_, rfl⟩
      have hbf : Below w.heap.size w Wf := by rw [← hWf]; exact sets_below (by omega) [.pointer none, .int .i64 0, .string ⟨#[]⟩, .int .i64 0] 0 _ HB5.out
      have hzf : Wf.heap[w.heap.size + 1]? = some (.cells #[.pointer none, .int .i64 0, .string ⟨#[]⟩, .int .i64 0] 81 (0, 0)) := by rw [← hWf]; exact sets_all (vs := [.pointer none, .int .i64 0, .string ⟨#[]⟩, .int .i64 0]) HZ5.out rfl
      rw [hWf]
      clear y0 y1 y2 y3
      have y0 := cellOf (k := 0) hzf rfl
      have y1 := cellOf (k := 1) hzf rfl
      have y2 := cellOf (k := 2) hzf rfl
      have y3 := cellOf (k := 3) hzf rfl
      refine bodyPost_ret (v := .tuple #[.agg #[.pointer none, .int .i64 0, .string ⟨#[]⟩, .int .i64 0], .int .i64 180]) (by simp [results, Tryz.results44, go_sem, y0, y1, y2, y3]) rfl ?_
      exact HE.out _ hbf
  | true =>
    have e1 : n = gc := hmany
    subst e1
    clear hmany
    have d0 := cellOf (k := 3) HC0.out rfl
    have d1 : W0.frozen? ⟨w.heap.size + 1 + 1, 3, none⟩ = false := freeOf HC0.out
    obtain ⟨Wx, hWx⟩ : ∃ W, W0.setCell ⟨w.heap.size + 1 + 1, 3, none⟩ (.int .i64 n) = W := ⟨_, rfl⟩
    have HBx : Hid (Below w.heap.size w Wx) := by rw [← hWx]; exact HB0.out.setCell (by show w.heap.size ≤ w.heap.size + 1 + 1; omega) _
    have HCx : Hid (Wx.heap[w.heap.size + 1 + 1]? = some (.cells #[.pointer (some ⟨B, 0, none⟩), .int .i64 0, .string ⟨#[]⟩, .int .i64 n] 81 (0, 0))) := by rw [← hWx]; exact setHeap_at (k := 3) HC0.out _
    have HZx : Hid (Wx.heap[w.heap.size + 1]? = some (.cells #[.pointer none, .int .i64 0, .string ⟨#[]⟩, .int .i64 0] 81 (0, 0))) := by rw [← hWx]; exact setCell_turn.heap HZ0.out (by omega)
    have HGx : Hid (Wx.heap[w.heap.size]? = some (.cells #[.int .i64 ga, .int .i64 gb, .int .i64 n] 23 (0, 0))) := by rw [← hWx]; exact setCell_turn.heap HG0.out (by omega)
    have z2 := cellOf (k := 2) HG0.out rfl
    have u0 := cellOf (k := 0) HGx.out rfl
    have u1 := cellOf (k := 1) HGx.out rfl
    have u2 := cellOf (k := 2) HGx.out rfl
    go_enter Tryz.func44, Tryz.ntmps44
    go_wp2_with fail
    clear hW0 hWx d0 d1 z2 u0 u1 u2
    refine (HM.out _).mono ?_
    rintro e w1 ⟨rfl, hb1⟩
    have HB1 := Lib.hid (blN HBx.out hb1)
    have HC1 := Lib.hid (heapOld hb1 HCx.out)
    have HZ1 := Lib.hid (heapOld hb1 HZx.out)
    clear hb1
    have c1 := cellOf (k := 1) HC1.out rfl
    have f1 : w1.frozen? ⟨w.heap.size + 1 + 1, 1, none⟩ = false := freeOf HC1.out
    obtain ⟨W2, hW2⟩ : ∃ W, w1.setCell ⟨w.heap.size + 1 + 1, 1, none⟩ (.int .i64 a) = W := ⟨_, rfl⟩
    have HB2 : Hid (Below w.heap.size w W2) := by rw [← hW2]; exact HB1.out.setCell (by show w.heap.size ≤ w.heap.size + 1 + 1; omega) _
    have HC2 : Hid (W2.heap[w.heap.size + 1 + 1]? = some (.cells #[.pointer (some ⟨B, 0, none⟩), .int .i64 a, .string ⟨#[]⟩, .int .i64 n] 81 (0, 0))) := by rw [← hW2]; exact setHeap_at (k := 1) HC1.out _
    have HZ2 : Hid (W2.heap[w.heap.size + 1]? = some (.cells #[.pointer none, .int .i64 0, .string ⟨#[]⟩, .int .i64 0] 81 (0, 0))) := by rw [← hW2]; exact setCell_turn.heap HZ1.out (by omega)
    have c2 := cellOf (k := 1) HC2.out rfl
    go_wp2_with fail
    clear c1 f1 c2 hW2
    refine (HR.out _ HB2.out).mono ?_
    rintro e w3 ⟨rfl, hb3⟩
    have HB3 := Lib.hid (blN HB2.out hb3)
    have HC3 := Lib.hid (heapOld hb3 HC2.out)
    have HZ3 := Lib.hid (heapOld hb3 HZ2.out)
    clear hb3
    have c1 := cellOf (k := 2) HC3.out rfl
    have f1 : w3.frozen? ⟨w.heap.size + 1 + 1, 2, none⟩ = false := freeOf HC3.out
    obtain ⟨W4, hW4⟩ : ∃ W, w3.setCell ⟨w.heap.size + 1 + 1, 2, none⟩ (.string t) = W := ⟨_, rfl⟩
    have HB4 : Hid (Below w.heap.size w W4) := by rw [← hW4]; exact HB3.out.setCell (by show w.heap.size ≤ w.heap.size + 1 + 1; omega) _
    have HC4 : Hid (W4.heap[w.heap.size + 1 + 1]? = some (.cells #[.pointer (some ⟨B, 0, none⟩), .int .i64 a, .string t, .int .i64 n] 81 (0, 0))) := by rw [← hW4]; exact setHeap_at (k := 2) HC3.out _
    have HZ4 : Hid (W4.heap[w.heap.size + 1]? = some (.cells #[.pointer none, .int .i64 0, .string ⟨#[]⟩, .int .i64 0] 81 (0, 0))) := by rw [← hW4]; exact setCell_turn.heap HZ3.out (by omega)
    have c2 := cellOf (k := 2) HC4.out rfl
    have c3 := cellOf (k := 3) HC4.out rfl
    have hrc := HRC.out
    by_cases hh : S.disk.has a
    · rw [if_pos hh] at hrc
      subst hrc
      by_cases hm0 : mc = 0
      · subst hm0
        have HE : Hid (∀ w', Below w.heap.size w w' → Q (.returned (.tuple #[.agg #[.pointer (some ⟨B, 0, none⟩), .int .i64 a, .string t, .int .i64 n], .int .i64 0])) w') := fun w' hb => HP.out _ w' (by rw [if_pos ⟨hh, rfl⟩]) hb
        clear hh HP
        go_wp2_with fail
        clear c1 f1 c2 c3 hW4
        refine (HC.out _).mono ?_
        rintro e w5 ⟨rfl, hb5⟩
        have HB5 := Lib.hid (blN HB4.out hb5)
        have hc5 := heapOld hb5 HC4.out
        have hz5 := heapOld hb5 HZ4.out
        clear hb5
        have k0 := cellOf (k := 0) hc5 rfl
        have k1 := cellOf (k := 1) hc5 rfl
        have k2 := cellOf (k := 2) hc5 rfl
        have k3 := cellOf (k := 3) hc5 rfl
        have HZ5 := Lib.hid hz5
        have y0 := cellOf (k := 0) hz5 rfl
        have y1 := cellOf (k := 1) hz5 rfl
        have y2 := cellOf (k := 2) hz5 rfl
        have y3 := cellOf (k := 3) hz5 rfl
        have v0 : w5.frozen? ⟨w.heap.size + 1, 0, none⟩ = false := freeOf hz5
        have v1 : w5.frozen? ⟨w.heap.size + 1, 1, none⟩ = false := freeOf hz5
        have v2 : w5.frozen? ⟨w.heap.size + 1, 2, none⟩ = false := freeOf hz5
        have v3 : w5.frozen? ⟨w.heap.size + 1, 3, none⟩ = false := freeOf hz5
        go_wp2
        obtain ⟨Wf, hWf⟩ : ∃ W, (((w5.setCell ⟨w.heap.size + 1, 0, none⟩ (.pointer (some ⟨B, 0, none⟩))).setCell ⟨w.heap.size + 1, 1, none⟩ (.int .i64 a)).setCell ⟨w.heap.size + 1, 2, none⟩ (.string t)).setCell ⟨w.heap.size + 1, 3, none⟩ (.int .i64 n) = W := ⟨_, rfl⟩
        have hbf : Below w.heap.size w Wf := by rw [← hWf]; exact sets_below (by omega) [.pointer (some ⟨B, 0, none⟩), .int .i64 a, .string t, .int .i64 n] 0 _ HB5.out
        have hzf : Wf.heap[w.heap.size + 1]? = some (.cells #[.pointer (some ⟨B, 0, none⟩), .int .i64 a, .string t, .int .i64 n] 81 (0, 0)) := by rw [← hWf]; exact sets_all (vs := [.pointer (some ⟨B, 0, none⟩), .int .i64 a, .string t, .int .i64 n]) HZ5.out rfl
        rw [hWf]
        have y0 := cellOf (k := 0) hzf rfl
        have y1 := cellOf (k := 1) hzf rfl
        have y2 := cellOf (k := 2) hzf rfl
        have y3 := cellOf (k := 3) hzf rfl
        refine bodyPost_ret (v := .tuple #[.agg #[.pointer (some ⟨B, 0, none⟩), .int .i64 a, .string t, .int .i64 n], .int .i64 0]) (by simp [results, Tryz.results44, go_sem, y0, y1, y2, y3]) rfl ?_
        exact HE.out _ hbf
      · have HE : Hid (∀ w', Below w.heap.size w w' → Q (.returned (.tuple #[.agg #[.pointer none, .int .i64 0, .string ⟨#[]⟩, .int .i64 0], .int .i64 180])) w') := fun w' hb => HP.out _ w' (by rw [if_neg (fun h => hm0 h.2)]) hb
        have q1 : (mc != 0) = true := by simp [hm0]
        have q2 : (mc == 0) = false := beq_eq_false_iff_ne.2 hm0
        clear hh HP hm0
        go_wp2_with fail
        clear c1 f1 c2 c3 hW4
        refine (HC.out _).mono ?_
        rintro e w5 ⟨rfl, hb5⟩
        have HB5 := Lib.hid (blN HB4.out hb5)
        have hz5 := heapOld hb5 HZ4.out
        clear hb5
        have HZ5 := Lib.hid hz5
        have y0 := cellOf (k := 0) hz5 rfl
        have y1 := cellOf (k := 1) hz5 rfl
        have y2 := cellOf (k := 2) hz5 rfl
        have y3 := cellOf (k := 3) hz5 rfl
        have v0 : w5.frozen? ⟨w.heap.size + 1, 0, none⟩ = false := freeOf hz5
        have v1 : w5.frozen? ⟨w.heap.size + 1, 1, none⟩ = false := freeOf hz5
        have v2 : w5.frozen? ⟨w.heap.size + 1, 2, none⟩ = false := freeOf hz5
        have v3 : w5.frozen? ⟨w.heap.size + 1, 3, none⟩ = false := freeOf hz5
        go_wp2
        obtain ⟨Wf, hWf⟩ : ∃ W, (((w5.setCell ⟨w.heap.size + 1, 0, none⟩ (.pointer none)).setCell ⟨w.heap.size + 1, 1, none⟩ (.int .i64 0)).setCell ⟨w.heap.size + 1, 2, none⟩ (.string ⟨#[]⟩)).setCell ⟨w.heap.size + 1, 3, none⟩ (.int .i64 0) = W := ⟨_, rfl⟩
        have hbf : Below w.heap.size w Wf := by rw [← hWf]; exact sets_below (by omega) [.pointer none, .int .i64 0, .string ⟨#[]⟩, .int .i64 0] 0 _ HB5.out
        have hzf : Wf.heap[w.heap.size + 1]? = some (.cells #[.pointer none, .int .i64 0, .string ⟨#[]⟩, .int .i64 0] 81 (0, 0)) := by rw [← hWf]; exact sets_all (vs := [.pointer none, .int .i64 0, .string ⟨#[]⟩, .int .i64 0]) HZ5.out rfl
        rw [hWf]
        clear y0 y1 y2 y3
        have y0 := cellOf (k := 0) hzf rfl
        have y1 := cellOf (k := 1) hzf rfl
        have y2 := cellOf (k := 2) hzf rfl
        have y3 := cellOf (k := 3) hzf rfl
        refine bodyPost_ret (v := .tuple #[.agg #[.pointer none, .int .i64 0, .string ⟨#[]⟩, .int .i64 0], .int .i64 180]) (by simp [results, Tryz.results44, go_sem, y0, y1, y2, y3]) rfl ?_
        exact HE.out _ hbf
    · rw [if_neg hh] at hrc
      subst hrc
      have HE : Hid (∀ w', Below w.heap.size w w' → Q (.returned (.tuple #[.agg #[.pointer none, .int .i64 0, .string ⟨#[]⟩, .int .i64 0], .int .i64 180])) w') := fun w' hb => HP.out _ w' (by rw [if_neg (fun h => hh h.1)]) hb
      clear hh HP
      have hz5 := HZ4.out
      obtain ⟨w5, hw5⟩ : ∃ W, W4 = W := ⟨_, rfl⟩
      have HB5 : Hid (Below w.heap.size w w5) := by rw [← hw5]; exact HB4.out
      rw [hw5] at hz5 hW4
      have HZ5 := Lib.hid hz5
      have y0 := cellOf (k := 0) hz5 rfl
      have y1 := cellOf (k := 1) hz5 rfl
      have y2 := cellOf (k := 2) hz5 rfl
      have y3 := cellOf (k := 3) hz5 rfl
      have v0 : w5.frozen? ⟨w.heap.size + 1, 0, none⟩ = false := freeOf hz5
      have v1 : w5.frozen? ⟨w.heap.size + 1, 1, none⟩ = false := freeOf hz5
      have v2 : w5.frozen? ⟨w.heap.size + 1, 2, none⟩ = false := freeOf hz5
      have v3 : w5.frozen? ⟨w.heap.size + 1, 3, none⟩ = false := freeOf hz5
      go_wp2
      clear c1 f1 c2 c3 hW4 hw5
      obtain ⟨Wf, hWf⟩ : ∃ W, (((w5.setCell ⟨w.heap.size + 1, 0, none⟩ (.pointer none)).setCell ⟨w.heap.size + 1, 1, none⟩ (.int .i64 0)).setCell ⟨w.heap.size + 1, 2, none⟩ (.string ⟨#[]⟩)).setCell ⟨w.heap.size + 1, 3, none⟩ (.int .i64 0) = W := ⟨_, rfl⟩
      have hbf : Below w.heap.size w Wf := by rw [← hWf]; exact sets_below (by omega) [.pointer none, .int .i64 0, .string ⟨#[]⟩, .int .i64 0] 0 _ HB5.out
      have hzf : Wf.heap[w.heap.size + 1]? = some (.cells #[.pointer none, .int .i64 0, .string ⟨#[]⟩, .int .i64 0] 81 (0, 0)) := by rw [← hWf]; exact sets_all (vs := [.pointer none, .int .i64 0, .string ⟨#[]⟩, .int .i64 0]) HZ5.out rfl
      rw [hWf]
      clear y0 y1 y2 y3
      have y0 := cellOf (k := 0) hzf rfl
      have y1 := cellOf (k := 1) hzf rfl
      have y2 := cellOf (k := 2) hzf rfl
      have y3 := cellOf (k := 3) hzf rfl
      refine bodyPost_ret (v := .tuple #[.agg #[.pointer none, .int .i64 0, .string ⟨#[]⟩, .int .i64 0], .int .i64 180]) (by simp [results, Tryz.results44, go_sem, y0, y1, y2, y3]) rfl ?_
      exact HE.out _ hbf
end
end Go.Proofs.YtghafpdmcbockaaGreatDoor
