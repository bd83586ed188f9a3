/-
  AllA: AllocLook, AllocTake.
-/
import Derived.Test.YtgofmnhfajmbfaaGreatDoorSofA
namespace Go.Proofs.YtgofmnhfajmbfaaGreatDoor
open Go Go.RowKit Txt Sp

theorem eql_soft_nil (w : World) (a : Addr) : (binOp .eql 34 (.pointer (some a)) (.pointer none)).run Tryz.prog w = .ok (.bool false) w := by
  have hp : Tryz.prog.underlying 34 = some (.pointer 117) := by kernel_rfl
  have h : ∀ d : Nat, (Op.equalIn (d + 1) 34 (.pointer (some a)) (.pointer none)).run Tryz.prog w = .ok false w := fun d => by
    simp [Op.equalIn, run_underlying hp]
  simp only [binOp]
  simp [Op.equal, Op.maxDepth, h 9999]
section
set_option maxHeartbeats 4000000
set_option maxRecDepth 20000 in
theorem awrong_any (w : World) (B : Nat) (g : Sp.Geom) (hg : g.ok) (v : Value) (ks : List Int) (hv : Ints w v ks) (hks : ∀ k ∈ ks, 0 ≤ k ∧ k < g.groups) :
    Calls Tryz.prog 106 #[pt B, gV g, v] w fun e w' => e = .returned (.int .i64 0) ∧ Below w.heap.size w w' := by
  have hch := fun W : World => gcheck_any W g
  rw [Geom.check_ok hg] at hch
  have heq := eql_soft_nil
  obtain ⟨ad, len, cap, rfl, HN, hn2, HF⟩ := RowAt.facts hv
  clear hv hg
  obtain ⟨ga, gb, gc⟩ := g
  simp only at hks
  unfold gV at hch ⊢
  unfold pt
  obtain ⟨W0, hW0⟩ : ∃ W, w.alloc (.cells #[.int .i64 ga, .int .i64 gb, .int .i64 gc] 23) = W := ⟨_, rfl⟩
  have hk := g_keep hW0
  have HB0 := Lib.hid hk.1
  have HK := Lib.hid hk.2
  clear hk
  have HCH := Lib.hid hch
  have HKS := Lib.hid hks
  clear hch hks
  obtain ⟨z0, z1, z2⟩ := HK.out W0 (Below.refl _ _)
  go_enter Tryz.func106, Tryz.ntmps106
  go_wp2_with fail
  clear z0 z1 z2
  refine (HCH.out _).mono ?_
  rintro e w1 ⟨rfl, hb1⟩
  have HB1 : Hid (Below W0.heap.size W0 w1) := hb1
  clear hb1
  obtain ⟨z0, z1, z2⟩ := HK.out w1 HB1.out
  go_wp2
  go_loopw [19] (fun i wr => wr = w1 ∧ ∃ k : Nat, k ≤ len ∧ i = .int .i64 (k : Int)) (fun i _ => len - (intOf i).toNat)
  case atStart => exact ⟨rfl, 0, Nat.zero_le _, rfl⟩
  case round =>
    obtain ⟨rfl, k, hk, rfl⟩ := hrel
    by_cases hlt : k < len
    · obtain ⟨b, o, x, rfl, hb, hx, hc⟩ := HF.out k hlt
      have c0 : wr.cell? ⟨b, o + k, none⟩ = some (.int .i64 x) := by
        have h := ((blN HB0.out HB1.out).cell (p := ⟨b, o + k * 1 + 0, none⟩) hb).trans (hc 0 _ rfl)
        simpa using h
      have hin := HKS.out x (List.mem_of_getElem? hx)
      have q1 : decide (x < 0) = false := decide_eq_false (by omega)
      have q2 : decide (x ≥ ga) = false := decide_eq_false (by omega)
      go_wp2
      go_roundw
      case rel => exact ⟨trivial, k + 1, by omega, by go_num⟩
      case measure => simp [intOf]; omega
    · obtain rfl : k = len := by omega
      go_wp2
      go_ret
      exact ⟨rfl, blN HB0.out HB1.out⟩
/-- A chart of a map. -/
def chartV (B : Nat) (g : Sp.Geom) (k : Int) (b : Bool) (s : ByteArray) : Value := .agg #[pt B, .int .i64 (mapAtG g k b), .string s, .int .i64 (manyG g b)]
def LookPost (B : Nat) (S : Sp.Side) (g : Sp.Geom) (k : Int) (b : Bool) (w : World) (e : Ending) (w' : World) : Prop :=
  (match S.look g k b with
  | some s => e = .returned (.tuple #[chartV B g k b s, .int .i64 0])
  | none => e = .returned (.tuple #[.agg #[.pointer none, .int .i64 0, .string ⟨#[]⟩, .int .i64 0], .int .i64 180])) ∧ Below w.heap.size w w'
theorem mapAt_in {g : Sp.Geom} (hg : g.ok) {k : Int} (hk : 0 ≤ k ∧ k < g.groups) (b : Bool) : mapAt g k b = (mapAtG g k b, 0) := by
  have hw : g.within k g.groups = 0 := by unfold Geom.within; rw [if_pos hg, if_neg (by omega)]
  unfold mapAt
  rw [if_pos hw]
  rfl
set_option maxRecDepth 20000 in
theorem alook_any {w : World} {base B Bd : Nat} {S : Sp.Side} {D : Nat → Prop} (h : SideAt w base B Bd S D) (hS : S.Ok) {g : Sp.Geom} (hg : g.ok) {k : Int} (hk : 0 ≤ k ∧ k < g.groups) (b : Bool) :
    Calls Tryz.prog 107 #[pt B, gV g, .int .i64 k, .bool b] w (LookPost B S g k b w) := by
  have hm := fun W : World => gmap_any W g k b
  rw [mapAt_in hg hk b] at hm
  have hr := fun (W : World) (hW : Below w.heap.size w W) => softRead_any (h.below hW) hS (mapAtG g k b)
  have hc := fun W : World => mcheck_any W (S.read (mapAtG g k b)) (manyG g b)
  have hP : ∀ e w', (if S.disk.has (mapAtG g k b) ∧ mapC (S.read (mapAtG g k b)) (manyG g b) = 0 then e = .returned (.tuple #[chartV B g k b (S.read (mapAtG g k b)), .int .i64 0]) else e = .returned (.tuple #[.agg #[.pointer none, .int .i64 0, .string ⟨#[]⟩, .int .i64 0], .int .i64 180])) → Below w.heap.size w w' → LookPost B S g k b w e w' := by
    intro e w' he hb
    unfold LookPost Side.look
    split at he
    · rename_i hh
      rw [if_pos hh]
      exact ⟨he, hb⟩
    · rename_i hh
      rw [if_neg hh]
      exact ⟨he, hb⟩
  have hrc : S.readC (mapAtG g k b) = if S.disk.has (mapAtG g k b) then 0 else 1 := rfl
  unfold chartV at hP
  have hmany : manyG g b = if b then g.blocks else g.inodes := rfl
  obtain ⟨a, ha⟩ : ∃ a, mapAtG g k b = a := ⟨_, rfl⟩
  rw [ha] at hm hr hc hP hrc
  obtain ⟨t, ht⟩ : ∃ t, S.read a = t := ⟨_, rfl⟩
  rw [ht] at hr hc hP
  obtain ⟨rc, hrcd⟩ : ∃ c, S.readC a = c := ⟨_, rfl⟩
  rw [hrcd] at hr hrc
  obtain ⟨n, hn⟩ : ∃ n, manyG g b = n := ⟨_, rfl⟩
  rw [hn] at hc hP hmany
  obtain ⟨mc, hmc⟩ : ∃ c, mapC t n = c := ⟨_, rfl⟩
  rw [hmc] at hc hP
  obtain ⟨Q, hQ⟩ : ∃ Q, LookPost B S g k b w = Q := ⟨_, rfl⟩
  rw [hQ] at hP ⊢
  obtain ⟨ga, gb, gc⟩ := g
  simp only at hmany
  unfold gV at hm ⊢
  unfold pt at hr hP ⊢
  have HM := Lib.hid hm
  have HR := Lib.hid hr
  have HC := Lib.hid hc
  have HP := Lib.hid hP
  have HRC := Lib.hid hrc
  clear hm hr hc hP hrc
  clear ha ht hrcd hn hmc hQ h hS hg hk
  obtain ⟨W0, hW0⟩ : ∃ W, ((w.alloc (.cells #[.int .i64 ga, .int .i64 gb, .int .i64 gc] 23)).alloc (.cells #[.pointer none, .int .i64 0, .string ⟨#[]⟩, .int .i64 0] 176)).alloc (.cells #[.pointer (some ⟨B, 0, none⟩), .int .i64 0, .string ⟨#[]⟩, .int .i64 gb] 176) = W := ⟨_, rfl⟩
  have HB0 : Hid (Below w.heap.size w W0) := by rw [← hW0]; exact bl1 (bl1 (bl2 _) _) _
  have HG0 : Hid (W0.heap[w.heap.size]? = some (.cells #[.int .i64 ga, .int .i64 gb, .int .i64 gc] 23 (0, 0))) := by
    rw [← hW0]
    exact heapOld (bl2 _) (heapOld (bl2 _) (heapNew w _))
  have HZ0 : Hid (W0.heap[w.heap.size + 1]? = some (.cells #[.pointer none, .int .i64 0, .string ⟨#[]⟩, .int .i64 0] 176 (0, 0))) := by
    rw [← hW0]
    have := heapNew (w.alloc (.cells #[.int .i64 ga, .int .i64 gb, .int .i64 gc] 23)) (.cells #[.pointer none, .int .i64 0, .string ⟨#[]⟩, .int .i64 0] 176)
    simp only [World.size_alloc] at this
    exact heapOld (bl2 _) this
  have HC0 : Hid (W0.heap[w.heap.size + 1 + 1]? = some (.cells #[.pointer (some ⟨B, 0, none⟩), .int .i64 0, .string ⟨#[]⟩, .int .i64 gb] 176 (0, 0))) := by
    rw [← hW0]
    have := heapNew ((w.alloc (.cells #[.int .i64 ga, .int .i64 gb, .int .i64 gc] 23)).alloc (.cells #[.pointer none, .int .i64 0, .string ⟨#[]⟩, .int .i64 0] 176)) (.cells #[.pointer (some ⟨B, 0, none⟩), .int .i64 0, .string ⟨#[]⟩, .int .i64 gb] 176)
    simp only [World.size_alloc] at this
    exact this
  cases b with
  | false =>
    have e1 : n = gb := hmany
    subst e1
    clear hmany
    have z0 := cellOf (k := 0) HG0.out rfl
    have z1 := cellOf (k := 1) HG0.out rfl
    have z2 := cellOf (k := 2) HG0.out rfl
    go_enter Tryz.func107, Tryz.ntmps107
    go_wp2_with fail
    clear hW0 z0 z1 z2
    have HBx := HB0
    have HCx := HC0
    have HZx := HZ0
    refine (HM.out _).mono ?_
    rintro e w1 ⟨rfl, hb1⟩
    have HB1 := Lib.hid (blN HBx.out hb1)
    have HC1 := Lib.hid (heapOld hb1 HCx.out)
    have HZ1 := Lib.hid (heapOld hb1 HZx.out)
    clear hb1
    have c1 := cellOf (k := 1) HC1.out rfl
    have f1 : w1.frozen? ⟨w.heap.size + 1 + 1, 1, none⟩ = false := freeOf HC1.out
    obtain ⟨W2, hW2⟩ : ∃ W, w1.setCell ⟨w.heap.size + 1 + 1, 1, none⟩ (.int .i64 a) = W := ⟨_, rfl⟩
    have HB2 : Hid (Below w.heap.size w W2) := by rw [← hW2]; exact HB1.out.setCell (by show w.heap.size ≤ w.heap.size + 1 + 1; omega) _
    have HC2 : Hid (W2.heap[w.heap.size + 1 + 1]? = some (.cells #[.pointer (some ⟨B, 0, none⟩), .int .i64 a, .string ⟨#[]⟩, .int .i64 n] 176 (0, 0))) := by rw [← hW2]; exact setHeap_at (k := 1) HC1.out _
    have HZ2 : Hid (W2.heap[w.heap.size + 1]? = some (.cells #[.pointer none, .int .i64 0, .string ⟨#[]⟩, .int .i64 0] 176 (0, 0))) := by rw [← hW2]; exact setCell_turn.heap HZ1.out (by omega)
    have c2 := cellOf (k := 1) HC2.out rfl
    go_wp2_with fail
    clear c1 f1 c2 hW2
    refine (HR.out _ HB2.out).mono ?_
    rintro e w3 ⟨rfl, hb3⟩
    have HB3 := Lib.hid (blN HB2.out hb3)
    have HC3 := Lib.hid (heapOld hb3 HC2.out)
    have HZ3 := Lib.hid (heapOld hb3 HZ2.out)
    clear hb3
    have c1 := cellOf (k := 2) HC3.out rfl
    have f1 : w3.frozen? ⟨w.heap.size + 1 + 1, 2, none⟩ = false := freeOf HC3.out
    obtain ⟨W4, hW4⟩ : ∃ W, w3.setCell ⟨w.heap.size + 1 + 1, 2, none⟩ (.string t) = W := ⟨_, rfl⟩
    have HB4 : Hid (Below w.heap.size w W4) := by rw [← hW4]; exact HB3.out.setCell (by show w.heap.size ≤ w.heap.size + 1 + 1; omega) _
    have HC4 : Hid (W4.heap[w.heap.size + 1 + 1]? = some (.cells #[.pointer (some ⟨B, 0, none⟩), .int .i64 a, .string t, .int .i64 n] 176 (0, 0))) := by rw [← hW4]; exact setHeap_at (k := 2) HC3.out _
    have HZ4 : Hid (W4.heap[w.heap.size + 1]? = some (.cells #[.pointer none, .int .i64 0, .string ⟨#[]⟩, .int .i64 0] 176 (0, 0))) := by rw [← hW4]; exact setCell_turn.heap HZ3.out (by omega)
    have c2 := cellOf (k := 2) HC4.out rfl
    have c3 := cellOf (k := 3) HC4.out rfl
    have hrc := HRC.out
    by_cases hh : S.disk.has a
    · rw [if_pos hh] at hrc
      subst hrc
      by_cases hm0 : mc = 0
      · subst hm0
        have HE : Hid (∀ w', Below w.heap.size w w' → Q (.returned (.tuple #[.agg #[.pointer (some ⟨B, 0, none⟩), .int .i64 a, .string t, .int .i64 n], .int .i64 0])) w') := fun w' hb => HP.out _ w' (by rw [if_pos ⟨hh, rfl⟩]) hb
        clear hh HP
        go_wp2_with fail
        clear c1 f1 c2 c3 hW4
        refine (HC.out _).mono ?_
        rintro e w5 ⟨rfl, hb5⟩
        have HB5 := Lib.hid (blN HB4.out hb5)
        have hc5 := heapOld hb5 HC4.out
        have hz5 := heapOld hb5 HZ4.out
        clear hb5
        have k0 := cellOf (k := 0) hc5 rfl
        have k1 := cellOf (k := 1) hc5 rfl
        have k2 := cellOf (k := 2) hc5 rfl
        have k3 := cellOf (k := 3) hc5 rfl
        have HZ5 := Lib.hid hz5
        have y0 := cellOf (k := 0) hz5 rfl
        have y1 := cellOf (k := 1) hz5 rfl
        have y2 := cellOf (k := 2) hz5 rfl
        have y3 := cellOf (k := 3) hz5 rfl
        have v0 : w5.frozen? ⟨w.heap.size + 1, 0, none⟩ = false := freeOf hz5
        have v1 : w5.frozen? ⟨w.heap.size + 1, 1, none⟩ = false := freeOf hz5
        have v2 : w5.frozen? ⟨w.heap.size + 1, 2, none⟩ = false := freeOf hz5
        have v3 : w5.frozen? ⟨w.heap.size + 1, 3, none⟩ = false := freeOf hz5
        go_wp2
        obtain ⟨Wf, hWf⟩ : ∃ W, (((w5.setCell ⟨w.heap.size + 1, 0, none⟩ (.pointer (some ⟨B, 0, none⟩))).setCell ⟨w.heap.size + 1, 1, none⟩ (.int .i64 a)).setCell ⟨w.heap.size + 1, 2, none⟩ (.string t)).setCell ⟨w.heap.size + 1, 3, none⟩ (.int .i64 n) = W := ⟨_, rfl⟩
        have hbf : Below w.heap.size w Wf := by rw [← hWf]; exact sets_below (by omega) [.pointer (some ⟨B, 0, none⟩), .int .i64 a, .string t, .int .i64 n] 0 _ HB5.out
        have hzf : Wf.heap[w.heap.size + 1]? = some (.cells #[.pointer (some ⟨B, 0, none⟩), .int .i64 a, .string t, .int .i64 n] 176 (0, 0)) := by rw [← hWf]; exact sets_all (vs := [.pointer (some ⟨B, 0, none⟩), .int .i64 a, .string t, .int .i64 n]) HZ5.out rfl
        rw [hWf]
        have y0 := cellOf (k := 0) hzf rfl
        have y1 := cellOf (k := 1) hzf rfl
        have y2 := cellOf (k := 2) hzf rfl
        have y3 := cellOf (k := 3) hzf rfl
        refine bodyPost_ret (v := .tuple #[.agg #[.pointer (some ⟨B, 0, none⟩), .int .i64 a, .string t, .int .i64 n], .int .i64 0]) (by simp [results, Tryz.results107, go_sem, y0, y1, y2, y3]) rfl ?_
        exact HE.out _ hbf
      · have HE : Hid (∀ w', Below w.heap.size w w' → Q (.returned (.tuple #[.agg #[.pointer none, .int .i64 0, .string ⟨#[]⟩, .int .i64 0], .int .i64 180])) w') := fun w' hb => HP.out _ w' (by rw [if_neg (fun h => hm0 h.2)]) hb
        have q1 : (mc != 0) = true := by simp [hm0]
        have q2 : (mc == 0) = false := beq_eq_false_iff_ne.2 hm0
        clear hh HP hm0
        go_wp2_with fail
        clear c1 f1 c2 c3 hW4
        refine (HC.out _).mono ?_
        rintro e w5 ⟨rfl, hb5⟩
        have HB5 := Lib.hid (blN HB4.out hb5)
        have hz5 := heapOld hb5 HZ4.out
        clear hb5
        have HZ5 := Lib.hid hz5
        have y0 := cellOf (k := 0) hz5 rfl
        have y1 := cellOf (k := 1) hz5 rfl
        have y2 := cellOf (k := 2) hz5 rfl
        have y3 := cellOf (k := 3) hz5 rfl
        have v0 : w5.frozen? ⟨w.heap.size + 1, 0, none⟩ = false := freeOf hz5
        have v1 : w5.frozen? ⟨w.heap.size + 1, 1, none⟩ = false := freeOf hz5
        have v2 : w5.frozen? ⟨w.heap.size + 1, 2, none⟩ = false := freeOf hz5
        have v3 : w5.frozen? ⟨w.heap.size + 1, 3, none⟩ = false := freeOf hz5
        go_wp2
        obtain ⟨Wf, hWf⟩ : ∃ W, (((w5.setCell ⟨w.heap.size + 1, 0, none⟩ (.pointer none)).setCell ⟨w.heap.size + 1, 1, none⟩ (.int .i64 0)).setCell ⟨w.heap.size + 1, 2, none⟩ (.string ⟨#[]⟩)).setCell ⟨w.heap.size + 1, 3, none⟩ (.int .i64 0) = W := ⟨_, rfl⟩
        have hbf : Below w.heap.size w Wf := by rw [← hWf]; exact sets_below (by omega) [.pointer none, .int .i64 0, .string ⟨#[]⟩, .int .i64 0] 0 _ HB5.out
        have hzf : Wf.heap[w.heap.size + 1]? = some (.cells #[.pointer none, .int .i64 0, .string ⟨#[]⟩, .int .i64 0] 176 (0, 0)) := by rw [← hWf]; exact sets_all (vs := [.pointer none, .int .i64 0, .string ⟨#[]⟩, .int .i64 0]) HZ5.out rfl
        rw [hWf]
        clear y0 y1 y2 y3
        have y0 := cellOf (k := 0) hzf rfl
        have y1 := cellOf (k := 1) hzf rfl
        have y2 := cellOf (k := 2) hzf rfl
        have y3 := cellOf (k := 3) hzf rfl
        refine bodyPost_ret (v := .tuple #[.agg #[.pointer none, .int .i64 0, .string ⟨#[]⟩, .int .i64 0], .int .i64 180]) (by simp [results, Tryz.results107, go_sem, y0, y1, y2, y3]) rfl ?_
        exact HE.out _ hbf
    · rw [if_neg hh] at hrc
      subst hrc
      have HE : Hid (∀ w', Below w.heap.size w w' → Q (.returned (.tuple #[.agg #[.pointer none, .int .i64 0, .string ⟨#[]⟩, .int .i64 0], .int .i64 180])) w') := fun w' hb => HP.out _ w' (by rw [if_neg (fun h => hh h.1)]) hb
      clear hh HP
      have hz5 := HZ4.out
      obtain ⟨w5, hw5⟩ : ∃ W, W4 = W := ⟨_, rfl⟩
      have HB5 : Hid (Below w.heap.size w w5) := by rw [← hw5]; exact HB4.out
      rw [hw5] at hz5 hW4
      have HZ5 := Lib.hid hz5
      have y0 := cellOf (k := 0) hz5 rfl
      have y1 := cellOf (k := 1) hz5 rfl
      have y2 := cellOf (k := 2) hz5 rfl
      have y3 := cellOf (k := 3) hz5 rfl
      have v0 : w5.frozen? ⟨w.heap.size + 1, 0, none⟩ = false := freeOf hz5
      have v1 : w5.frozen? ⟨w.heap.size + 1, 1, none⟩ = false := freeOf hz5
      have v2 : w5.frozen? ⟨w.heap.size + 1, 2, none⟩ = false := freeOf hz5
      have v3 : w5.frozen? ⟨w.heap.size + 1, 3, none⟩ = false := freeOf hz5
      go_wp2
      clear c1 f1 c2 c3 hW4 hw5
      obtain ⟨Wf, hWf⟩ : ∃ W, (((w5.setCell ⟨w.heap.size + 1, 0, none⟩ (.pointer none)).setCell ⟨w.heap.size + 1, 1, none⟩ (.int .i64 0)).setCell ⟨w.heap.size + 1, 2, none⟩ (.string ⟨#[]⟩)).setCell ⟨w.heap.size + 1, 3, none⟩ (.int .i64 0) = W := ⟨_, rfl⟩
      have hbf : Below w.heap.size w Wf := by rw [← hWf]; exact sets_below (by omega) [.pointer none, .int .i64 0, .string ⟨#[]⟩, .int .i64 0] 0 _ HB5.out
      have hzf : Wf.heap[w.heap.size + 1]? = some (.cells #[.pointer none, .int .i64 0, .string ⟨#[]⟩, .int .i64 0] 176 (0, 0)) := by rw [← hWf]; exact sets_all (vs := [.pointer none, .int .i64 0, .string ⟨#[]⟩, .int .i64 0]) HZ5.out rfl
      rw [hWf]
      clear y0 y1 y2 y3
      have y0 := cellOf (k := 0) hzf rfl
      have y1 := cellOf (k := 1) hzf rfl
      have y2 := cellOf (k := 2) hzf rfl
      have y3 := cellOf (k := 3) hzf rfl
      refine bodyPost_ret (v := .tuple #[.agg #[.pointer none, .int .i64 0, .string ⟨#[]⟩, .int .i64 0], .int .i64 180]) (by simp [results, Tryz.results107, go_sem, y0, y1, y2, y3]) rfl ?_
      exact HE.out _ hbf
  | true =>
    have e1 : n = gc := hmany
    subst e1
    clear hmany
    have d0 := cellOf (k := 3) HC0.out rfl
    have d1 : W0.frozen? ⟨w.heap.size + 1 + 1, 3, none⟩ = false := freeOf HC0.out
    obtain ⟨Wx, hWx⟩ : ∃ W, W0.setCell ⟨w.heap.size + 1 + 1, 3, none⟩ (.int .i64 n) = W := ⟨_, rfl⟩
    have HBx : Hid (Below w.heap.size w Wx) := by rw [← hWx]; exact HB0.out.setCell (by show w.heap.size ≤ w.heap.size + 1 + 1; omega) _
    have HCx : Hid (Wx.heap[w.heap.size + 1 + 1]? = some (.cells #[.pointer (some ⟨B, 0, none⟩), .int .i64 0, .string ⟨#[]⟩, .int .i64 n] 176 (0, 0))) := by rw [← hWx]; exact setHeap_at (k := 3) HC0.out _
    have HZx : Hid (Wx.heap[w.heap.size + 1]? = some (.cells #[.pointer none, .int .i64 0, .string ⟨#[]⟩, .int .i64 0] 176 (0, 0))) := by rw [← hWx]; exact setCell_turn.heap HZ0.out (by omega)
    have HGx : Hid (Wx.heap[w.heap.size]? = some (.cells #[.int .i64 ga, .int .i64 gb, .int .i64 n] 23 (0, 0))) := by rw [← hWx]; exact setCell_turn.heap HG0.out (by omega)
    have z2 := cellOf (k := 2) HG0.out rfl
    have u0 := cellOf (k := 0) HGx.out rfl
    have u1 := cellOf (k := 1) HGx.out rfl
    have u2 := cellOf (k := 2) HGx.out rfl
    go_enter Tryz.func107, Tryz.ntmps107
    go_wp2_with fail
    clear hW0 hWx d0 d1 z2 u0 u1 u2
    refine (HM.out _).mono ?_
    rintro e w1 ⟨rfl, hb1⟩
    have HB1 := Lib.hid (blN HBx.out hb1)
    have HC1 := Lib.hid (heapOld hb1 HCx.out)
    have HZ1 := Lib.hid (heapOld hb1 HZx.out)
    clear hb1
    have c1 := cellOf (k := 1) HC1.out rfl
    have f1 : w1.frozen? ⟨w.heap.size + 1 + 1, 1, none⟩ = false := freeOf HC1.out
    obtain ⟨W2, hW2⟩ : ∃ W, w1.setCell ⟨w.heap.size + 1 + 1, 1, none⟩ (.int .i64 a) = W := ⟨_, rfl⟩
    have HB2 : Hid (Below w.heap.size w W2) := by rw [← hW2]; exact HB1.out.setCell (by show w.heap.size ≤ w.heap.size + 1 + 1; omega) _
    have HC2 : Hid (W2.heap[w.heap.size + 1 + 1]? = some (.cells #[.pointer (some ⟨B, 0, none⟩), .int .i64 a, .string ⟨#[]⟩, .int .i64 n] 176 (0, 0))) := by rw [← hW2]; exact setHeap_at (k := 1) HC1.out _
    have HZ2 : Hid (W2.heap[w.heap.size + 1]? = some (.cells #[.pointer none, .int .i64 0, .string ⟨#[]⟩, .int .i64 0] 176 (0, 0))) := by rw [← hW2]; exact setCell_turn.heap HZ1.out (by omega)
    have c2 := cellOf (k := 1) HC2.out rfl
    go_wp2_with fail
    clear c1 f1 c2 hW2
    refine (HR.out _ HB2.out).mono ?_
    rintro e w3 ⟨rfl, hb3⟩
    have HB3 := Lib.hid (blN HB2.out hb3)
    have HC3 := Lib.hid (heapOld hb3 HC2.out)
    have HZ3 := Lib.hid (heapOld hb3 HZ2.out)
    clear hb3
    have c1 := cellOf (k := 2) HC3.out rfl
    have f1 : w3.frozen? ⟨w.heap.size + 1 + 1, 2, none⟩ = false := freeOf HC3.out
    obtain ⟨W4, hW4⟩ : ∃ W, w3.setCell ⟨w.heap.size + 1 + 1, 2, none⟩ (.string t) = W := ⟨_, rfl⟩
    have HB4 : Hid (Below w.heap.size w W4) := by rw [← hW4]; exact HB3.out.setCell (by show w.heap.size ≤ w.heap.size + 1 + 1; omega) _
    have HC4 : Hid (W4.heap[w.heap.size + 1 + 1]? = some (.cells #[.pointer (some ⟨B, 0, none⟩), .int .i64 a, .string t, .int .i64 n] 176 (0, 0))) := by rw [← hW4]; exact setHeap_at (k := 2) HC3.out _
    have HZ4 : Hid (W4.heap[w.heap.size + 1]? = some (.cells #[.pointer none, .int .i64 0, .string ⟨#[]⟩, .int .i64 0] 176 (0, 0))) := by rw [← hW4]; exact setCell_turn.heap HZ3.out (by omega)
    have c2 := cellOf (k := 2) HC4.out rfl
    have c3 := cellOf (k := 3) HC4.out rfl
    have hrc := HRC.out
    by_cases hh : S.disk.has a
    · rw [if_pos hh] at hrc
      subst hrc
      by_cases hm0 : mc = 0
      · subst hm0
        have HE : Hid (∀ w', Below w.heap.size w w' → Q (.returned (.tuple #[.agg #[.pointer (some ⟨B, 0, none⟩), .int .i64 a, .string t, .int .i64 n], .int .i64 0])) w') := fun w' hb => HP.out _ w' (by rw [if_pos ⟨hh, rfl⟩]) hb
        clear hh HP
        go_wp2_with fail
        clear c1 f1 c2 c3 hW4
        refine (HC.out _).mono ?_
        rintro e w5 ⟨rfl, hb5⟩
        have HB5 := Lib.hid (blN HB4.out hb5)
        have hc5 := heapOld hb5 HC4.out
        have hz5 := heapOld hb5 HZ4.out
        clear hb5
        have k0 := cellOf (k := 0) hc5 rfl
        have k1 := cellOf (k := 1) hc5 rfl
        have k2 := cellOf (k := 2) hc5 rfl
        have k3 := cellOf (k := 3) hc5 rfl
        have HZ5 := Lib.hid hz5
        have y0 := cellOf (k := 0) hz5 rfl
        have y1 := cellOf (k := 1) hz5 rfl
        have y2 := cellOf (k := 2) hz5 rfl
        have y3 := cellOf (k := 3) hz5 rfl
        have v0 : w5.frozen? ⟨w.heap.size + 1, 0, none⟩ = false := freeOf hz5
        have v1 : w5.frozen? ⟨w.heap.size + 1, 1, none⟩ = false := freeOf hz5
        have v2 : w5.frozen? ⟨w.heap.size + 1, 2, none⟩ = false := freeOf hz5
        have v3 : w5.frozen? ⟨w.heap.size + 1, 3, none⟩ = false := freeOf hz5
        go_wp2
        obtain ⟨Wf, hWf⟩ : ∃ W, (((w5.setCell ⟨w.heap.size + 1, 0, none⟩ (.pointer (some ⟨B, 0, none⟩))).setCell ⟨w.heap.size + 1, 1, none⟩ (.int .i64 a)).setCell ⟨w.heap.size + 1, 2, none⟩ (.string t)).setCell ⟨w.heap.size + 1, 3, none⟩ (.int .i64 n) = W := ⟨_, rfl⟩
        have hbf : Below w.heap.size w Wf := by rw [← hWf]; exact sets_below (by omega) [.pointer (some ⟨B, 0, none⟩), .int .i64 a, .string t, .int .i64 n] 0 _ HB5.out
        have hzf : Wf.heap[w.heap.size + 1]? = some (.cells #[.pointer (some ⟨B, 0, none⟩), .int .i64 a, .string t, .int .i64 n] 176 (0, 0)) := by rw [← hWf]; exact sets_all (vs := [.pointer (some ⟨B, 0, none⟩), .int .i64 a, .string t, .int .i64 n]) HZ5.out rfl
        rw [hWf]
        have y0 := cellOf (k := 0) hzf rfl
        have y1 := cellOf (k := 1) hzf rfl
        have y2 := cellOf (k := 2) hzf rfl
        have y3 := cellOf (k := 3) hzf rfl
        refine bodyPost_ret (v := .tuple #[.agg #[.pointer (some ⟨B, 0, none⟩), .int .i64 a, .string t, .int .i64 n], .int .i64 0]) (by simp [results, Tryz.results107, go_sem, y0, y1, y2, y3]) rfl ?_
        exact HE.out _ hbf
      · have HE : Hid (∀ w', Below w.heap.size w w' → Q (.returned (.tuple #[.agg #[.pointer none, .int .i64 0, .string ⟨#[]⟩, .int .i64 0], .int .i64 180])) w') := fun w' hb => HP.out _ w' (by rw [if_neg (fun h => hm0 h.2)]) hb
        have q1 : (mc != 0) = true := by simp [hm0]
        have q2 : (mc == 0) = false := beq_eq_false_iff_ne.2 hm0
        clear hh HP hm0
        go_wp2_with fail
        clear c1 f1 c2 c3 hW4
        refine (HC.out _).mono ?_
        rintro e w5 ⟨rfl, hb5⟩
        have HB5 := Lib.hid (blN HB4.out hb5)
        have hz5 := heapOld hb5 HZ4.out
        clear hb5
        have HZ5 := Lib.hid hz5
        have y0 := cellOf (k := 0) hz5 rfl
        have y1 := cellOf (k := 1) hz5 rfl
        have y2 := cellOf (k := 2) hz5 rfl
        have y3 := cellOf (k := 3) hz5 rfl
        have v0 : w5.frozen? ⟨w.heap.size + 1, 0, none⟩ = false := freeOf hz5
        have v1 : w5.frozen? ⟨w.heap.size + 1, 1, none⟩ = false := freeOf hz5
        have v2 : w5.frozen? ⟨w.heap.size + 1, 2, none⟩ = false := freeOf hz5
        have v3 : w5.frozen? ⟨w.heap.size + 1, 3, none⟩ = false := freeOf hz5
        go_wp2
        obtain ⟨Wf, hWf⟩ : ∃ W, (((w5.setCell ⟨w.heap.size + 1, 0, none⟩ (.pointer none)).setCell ⟨w.heap.size + 1, 1, none⟩ (.int .i64 0)).setCell ⟨w.heap.size + 1, 2, none⟩ (.string ⟨#[]⟩)).setCell ⟨w.heap.size + 1, 3, none⟩ (.int .i64 0) = W := ⟨_, rfl⟩
        have hbf : Below w.heap.size w Wf := by rw [← hWf]; exact sets_below (by omega) [.pointer none, .int .i64 0, .string ⟨#[]⟩, .int .i64 0] 0 _ HB5.out
        have hzf : Wf.heap[w.heap.size + 1]? = some (.cells #[.pointer none, .int .i64 0, .string ⟨#[]⟩, .int .i64 0] 176 (0, 0)) := by rw [← hWf]; exact sets_all (vs := [.pointer none, .int .i64 0, .string ⟨#[]⟩, .int .i64 0]) HZ5.out rfl
        rw [hWf]
        clear y0 y1 y2 y3
        have y0 := cellOf (k := 0) hzf rfl
        have y1 := cellOf (k := 1) hzf rfl
        have y2 := cellOf (k := 2) hzf rfl
        have y3 := cellOf (k := 3) hzf rfl
        refine bodyPost_ret (v := .tuple #[.agg #[.pointer none, .int .i64 0, .string ⟨#[]⟩, .int .i64 0], .int .i64 180]) (by simp [results, Tryz.results107, go_sem, y0, y1, y2, y3]) rfl ?_
        exact HE.out _ hbf
    · rw [if_neg hh] at hrc
      subst hrc
      have HE : Hid (∀ w', Below w.heap.size w w' → Q (.returned (.tuple #[.agg #[.pointer none, .int .i64 0, .string ⟨#[]⟩, .int .i64 0], .int .i64 180])) w') := fun w' hb => HP.out _ w' (by rw [if_neg (fun h => hh h.1)]) hb
      clear hh HP
      have hz5 := HZ4.out
      obtain ⟨w5, hw5⟩ : ∃ W, W4 = W := ⟨_, rfl⟩
      have HB5 : Hid (Below w.heap.size w w5) := by rw [← hw5]; exact HB4.out
      rw [hw5] at hz5 hW4
      have HZ5 := Lib.hid hz5
      have y0 := cellOf (k := 0) hz5 rfl
      have y1 := cellOf (k := 1) hz5 rfl
      have y2 := cellOf (k := 2) hz5 rfl
      have y3 := cellOf (k := 3) hz5 rfl
      have v0 : w5.frozen? ⟨w.heap.size + 1, 0, none⟩ = false := freeOf hz5
      have v1 : w5.frozen? ⟨w.heap.size + 1, 1, none⟩ = false := freeOf hz5
      have v2 : w5.frozen? ⟨w.heap.size + 1, 2, none⟩ = false := freeOf hz5
      have v3 : w5.frozen? ⟨w.heap.size + 1, 3, none⟩ = false := freeOf hz5
      go_wp2
      clear c1 f1 c2 c3 hW4 hw5
      obtain ⟨Wf, hWf⟩ : ∃ W, (((w5.setCell ⟨w.heap.size + 1, 0, none⟩ (.pointer none)).setCell ⟨w.heap.size + 1, 1, none⟩ (.int .i64 0)).setCell ⟨w.heap.size + 1, 2, none⟩ (.string ⟨#[]⟩)).setCell ⟨w.heap.size + 1, 3, none⟩ (.int .i64 0) = W := ⟨_, rfl⟩
      have hbf : Below w.heap.size w Wf := by rw [← hWf]; exact sets_below (by omega) [.pointer none, .int .i64 0, .string ⟨#[]⟩, .int .i64 0] 0 _ HB5.out
      have hzf : Wf.heap[w.heap.size + 1]? = some (.cells #[.pointer none, .int .i64 0, .string ⟨#[]⟩, .int .i64 0] 176 (0, 0)) := by rw [← hWf]; exact sets_all (vs := [.pointer none, .int .i64 0, .string ⟨#[]⟩, .int .i64 0]) HZ5.out rfl
      rw [hWf]
      clear y0 y1 y2 y3
      have y0 := cellOf (k := 0) hzf rfl
      have y1 := cellOf (k := 1) hzf rfl
      have y2 := cellOf (k := 2) hzf rfl
      have y3 := cellOf (k := 3) hzf rfl
      refine bodyPost_ret (v := .tuple #[.agg #[.pointer none, .int .i64 0, .string ⟨#[]⟩, .int .i64 0], .int .i64 180]) (by simp [results, Tryz.results107, go_sem, y0, y1, y2, y3]) rfl ?_
      exact HE.out _ hbf
end
end Go.Proofs.YtgofmnhfajmbfaaGreatDoor

namespace Go.Proofs.YtgofmnhfajmbfaaGreatDoor
open Go Go.RowKit Txt Sp

/-- Behind a call the side is S'; nothing but its blocks turned. -/
def SideTo (w : World) (base B Bd : Nat) (S' : Sp.Side) (D : Nat → Prop) (w' : World) : Prop :=
  SideAt w' base B Bd S' (fun j => D j ∨ (w.heap.size ≤ j ∧ j < w'.heap.size)) ∧ ∃ K, (∀ j, K j → D j) ∧ Turn K w w'
theorem SideTo.none {w w' : World} {base B Bd : Nat} {S : Sp.Side} {D : Nat → Prop} (h : SideAt w base B Bd S D) (hb : Below w.heap.size w w') : SideTo w base B Bd S D w' :=
  ⟨(h.below hb).mono (fun _ h => Or.inl h), fun _ => False, fun _ h => h.elim, Turn.of_below hb⟩
theorem SideTo.ahead {w w1 w' : World} {base B Bd : Nat} {S' : Sp.Side} {D : Nat → Prop} (hb : Below w.heap.size w w1) (h : SideTo w1 base B Bd S' D w') : SideTo w base B Bd S' D w' := by
  obtain ⟨hs, K, hK, hT⟩ := h
  have := hb.size
  exact ⟨hs.mono (fun k hk => hk.imp_right fun h => ⟨by omega, h.2⟩), K, hK, (Turn.of_below (K := K) hb).trans hT (fun _ _ h => h) (fun _ _ h => h)⟩
theorem SideTo.behind {w w1 w' : World} {base B Bd : Nat} {S' : Sp.Side} {D : Nat → Prop} (h : SideTo w base B Bd S' D w1) (hb : Below w1.heap.size w1 w') : SideTo w base B Bd S' D w' := by
  obtain ⟨hs, K, hK, hT⟩ := h
  have := hb.size
  exact ⟨(hs.below hb).mono (fun k hk => hk.imp_right fun h => ⟨h.1, by omega⟩), K, hK, hT.trans (Turn.of_below (K := K) hb) (fun _ _ h => h) (fun _ _ h => h)⟩
theorem ChangePost.to {w w' : World} {base B Bd : Nat} {S : Sp.Side} {D : Nat → Prop} {i off : Int} {b : ByteArray} {ahead : List Int} {e : Ending} (h : ChangePost w base B Bd S D i off b ahead e w') :
    e = .returned (.tuple #[.int .i64 (S.changeN i off b ahead), .int .i64 (S.changeC i off b ahead)]) ∧ SideTo w base B Bd (S.change i off b ahead) D w' := h
section
set_option maxHeartbeats 4000000
set_option maxRecDepth 20000 in
theorem aset_any {w : World} {base B Bd : Nat} {S : Sp.Side} {D : Nat → Prop} (h : SideAt w base B Bd S D) (hS : S.Ok) (hlast : S.deps.last < 1000000000) (a : Int) (t : ByteArray) (n p : Int) (b : Bool) (hp : manyC n p = 0) (v : Value) (ahead : List Int) (hv : Ints w v ahead) (hal : ahead.length ≤ 100000) :
    Calls Tryz.prog 192 #[.agg #[pt B, .int .i64 a, .string t, .int .i64 n], .int .i64 p, .bool b, v] w fun e w' =>
      e = .returned (.tuple #[.int .i64 (S.changeN a p (if b then oneB else zeroB) ahead), .int .i64 (S.changeC a p (if b then oneB else zeroB) ahead)]) ∧ SideTo w base B Bd (S.change a p (if b then oneB else zeroB) ahead) D w' := by
  have hm := fun W : World => mset_any W n p b hp
  obtain ⟨x, hx⟩ : ∃ x, (if b then oneB else zeroB) = x := ⟨_, rfl⟩
  rw [hx] at hm ⊢
  have hc := fun (W : World) (hW : Below w.heap.size w W) => softChange_any (h.below hW) hS hlast a p x v ahead (hv.below hW) hal
  have hfin : ∀ (W : World) (e : Ending) (w' : World), Below w.heap.size w W → ChangePost W base B Bd S D a p x ahead e w' → e = .returned (.tuple #[.int .i64 (S.changeN a p x ahead), .int .i64 (S.changeC a p x ahead)]) ∧ SideTo w base B Bd (S.change a p x ahead) D w' := fun W e w' hb hA => ⟨hA.1, hA.to.2.ahead hb⟩
  obtain ⟨Q, hQ⟩ : ∃ Q : Ending → World → Prop, (fun e w' => e = .returned (.tuple #[.int .i64 (S.changeN a p x ahead), .int .i64 (S.changeC a p x ahead)]) ∧ SideTo w base B Bd (S.change a p x ahead) D w') = Q := ⟨_, rfl⟩
  have hfin2 : ∀ (W : World) (e : Ending) (w' : World), Below w.heap.size w W → ChangePost W base B Bd S D a p x ahead e w' → Q e w' := by rw [← hQ]; exact hfin
  rw [hQ]
  unfold pt at hc ⊢
  obtain ⟨W0, hW0⟩ : ∃ W, w.alloc (.cells #[.pointer (some ⟨B, 0, none⟩), .int .i64 a, .string t, .int .i64 n] 176) = W := ⟨_, rfl⟩
  have HB0 : Hid (Below w.heap.size w W0) := by rw [← hW0]; exact bl2 _
  have HC0 : Hid (W0.heap[w.heap.size]? = some (.cells #[.pointer (some ⟨B, 0, none⟩), .int .i64 a, .string t, .int .i64 n] 176 (0, 0))) := by rw [← hW0]; exact heapNew w _
  have y3 := cellOf (k := 3) HC0.out rfl
  have HM := Lib.hid hm
  have HC := Lib.hid hc
  have HFIN2 := Lib.hid hfin2
  clear hm hc hfin2
  clear hfin hQ hx h hS hlast hv hal hp
  go_enter Tryz.func192, Tryz.ntmps192
  go_wp2_with fail
  clear y3 hW0
  refine (HM.out _).mono ?_
  rintro e w1 ⟨rfl, hb1⟩
  have HB1 := Lib.hid (blN HB0.out hb1)
  have HC1 := Lib.hid (heapOld hb1 HC0.out)
  clear hb1
  obtain ⟨W2, hW2⟩ : ∃ W, w1.alloc (.cells #[.int .i64 p, .string x] 167) = W := ⟨_, rfl⟩
  have HB2 : Hid (Below w.heap.size w W2) := by rw [← hW2]; exact bl1 HB1.out _
  have HC2 : Hid (W2.heap[w.heap.size]? = some (.cells #[.pointer (some ⟨B, 0, none⟩), .int .i64 a, .string t, .int .i64 n] 176 (0, 0))) := by rw [← hW2]; exact heapOld (bl2 _) HC1.out
  have HP2 : Hid (W2.heap[w1.heap.size]? = some (.cells #[.int .i64 p, .string x] 167 (0, 0))) := by rw [← hW2]; exact heapNew w1 _
  have y0 := cellOf (k := 0) HC2.out rfl
  have y1 := cellOf (k := 1) HC2.out rfl
  have x0 := cellOf (k := 0) HP2.out rfl
  have x1 := cellOf (k := 1) HP2.out rfl
  go_wp2_with fail
  clear y0 y1 x0 x1 hW2
  refine (HC.out _ HB2.out).mono ?_
  rintro e w3 hA
  have HF := Lib.hid (HFIN2.out _ _ _ HB2.out hA)
  obtain ⟨he, -⟩ := hA
  subst he
  go_wp2
  first | exact HF.out | (go_ret2; exact HF.out)
/-- What take leaves. -/
def TakePost (w : World) (base B Bd : Nat) (D : Nat → Prop) (T : Sp.Side × Took) (e : Ending) (w' : World) : Prop :=
  e = .returned (.tuple #[.int .i64 T.2.group, .int .i64 T.2.place, .int .i64 T.2.change, .int .i64 T.2.code]) ∧ SideTo w base B Bd T.1 D w'
set_option maxRecDepth 20000 in
theorem atake_any {w : World} {base B Bd : Nat} {S : Sp.Side} {D : Nat → Prop} (h : SideAt w base B Bd S D) (hS : S.Ok) (hlast : S.deps.last < 1000000000) {g : Sp.Geom} (hg : g.ok) (b : Bool) (v : Value) (ks : List Int) (hv : Ints w v ks) (hks : ∀ k ∈ ks, 0 ≤ k ∧ k < g.groups) :
    Calls Tryz.prog 127 #[pt B, gV g, .bool b, v] w (TakePost w base B Bd D (S.takeL g b ks)) := by
  have hw := fun (W : World) (hW : Below w.heap.size w W) => awrong_any W B g hg v ks (hv.below hW) hks
  obtain ⟨ad, len, cap, rfl, HN, hn2, HF⟩ := RowAt.facts hv
  have hlook := fun (W : World) (hW : Below w.heap.size w W) (k : Int) (hk : 0 ≤ k ∧ k < g.groups) => alook_any (h.below hW) hS hg hk b
  have hset := fun (W : World) (hW : Below w.heap.size w W) (k : Int) (t : ByteArray) (p : Int) (hp : manyC (manyG g b) p = 0) => aset_any (h.below hW) hS hlast (mapAtG g k b) t (manyG g b) p true hp (.slice none 0 0) [] (RowAt.void _ 1) (by simp)
  have hfind := fun (W : World) (t : ByteArray) (ht : mapC t (manyG g b) = 0) => mfind_any W t (manyG g b) ht
  have hls := fun (k : Int) (t : ByteArray) (ht : S.look g k b = some t) => (look_some ht).2.2
  -- the ends
  have hnone : ∀ (r : List Int) (k : Int) (w' : World), S.takeL g b ks = S.takeL g b (k :: r) → S.look g k b = none → Below w.heap.size w w' → TakePost w base B Bd D (S.takeL g b ks) (.returned (.tuple #[.int .i64 0, .int .i64 0, .int .i64 0, .int .i64 180])) w' := fun r k w' he hl hb => by
    rw [he]
    unfold Side.takeL
    rw [hl]
    exact ⟨rfl, SideTo.none h hb⟩
  have hend : ∀ w' : World, S.takeL g b ks = S.takeL g b [] → Below w.heap.size w w' → TakePost w base B Bd D (S.takeL g b ks) (.returned (.tuple #[.int .i64 0, .int .i64 0, .int .i64 0, .int .i64 109])) w' := fun w' he hb => by
    rw [he]
    exact ⟨rfl, SideTo.none h hb⟩
  have hstep : ∀ (r : List Int) (k : Int) (t : ByteArray), S.look g k b = some t → freeP t (manyG g b).toNat = none → S.takeL g b (k :: r) = S.takeL g b r := fun r k t hl hf => by
    conv => lhs; unfold Side.takeL
    rw [hl]
    dsimp only
    rw [hf]
  have htook : ∀ (r : List Int) (k : Int) (t : ByteArray) (p : Nat) (W w' : World), S.takeL g b ks = S.takeL g b (k :: r) → S.look g k b = some t → freeP t (manyG g b).toNat = some p → Below w.heap.size w W → SideTo W base B Bd (S.change (mapAtG g k b) p oneB []) D w' →
      TakePost w base B Bd D (S.takeL g b ks) (.returned (.tuple #[.int .i64 k, .int .i64 (p : Int), .int .i64 (S.changeN (mapAtG g k b) p oneB []), .int .i64 (S.changeC (mapAtG g k b) p oneB [])])) w' := fun r k t p W w' he hl hf hb hs => by
    rw [he]
    unfold Side.takeL
    rw [hl]
    dsimp only
    rw [hf]
    exact ⟨rfl, hs.ahead hb⟩
  have hfm : ∀ (t : ByteArray) (p : Nat), mapC t (manyG g b) = 0 → freeP t (manyG g b).toNat = some p → manyC (manyG g b) p = 0 := fun t p ht hf => by
    have h1 := mapC_size ht
    have h2 := (freeP_some hf).1
    unfold manyC
    rw [if_neg (by omega)]
  obtain ⟨n, hn⟩ : ∃ n, manyG g b = n := ⟨_, rfl⟩
  obtain ⟨Q, hQ⟩ : ∃ Q, TakePost w base B Bd D (S.takeL g b ks) = Q := ⟨_, rfl⟩
  rw [hQ] at hnone hend htook ⊢
  unfold LookPost chartV at hlook
  rw [hn] at hlook hset hfind hls hstep htook hfm
  simp only [if_true] at hset
  obtain ⟨ga, gb, gc⟩ := g
  simp only at hlook hks
  unfold gV at hw hlook ⊢
  unfold pt at hw hlook hset ⊢
  obtain ⟨W0, hW0⟩ : ∃ W, w.alloc (.cells #[.int .i64 ga, .int .i64 gb, .int .i64 gc] 23) = W := ⟨_, rfl⟩
  have hk := g_keep hW0
  have HB0 := Lib.hid hk.1
  have HK := Lib.hid hk.2
  clear hk
  have hw0 := hw W0 HB0.out
  have HW0 := Lib.hid hw0
  have HLOOK := Lib.hid hlook
  have HSET := Lib.hid hset
  have HFIND := Lib.hid hfind
  have HLS := Lib.hid hls
  have HNONE := Lib.hid hnone
  have HEND := Lib.hid hend
  have HSTEP := Lib.hid hstep
  have HTOOK := Lib.hid htook
  have HFM := Lib.hid hfm
  have HKS := Lib.hid hks
  clear hw0 hlook hset hfind hls hnone hend hstep htook hfm hks
  clear hw h hS hlast hg hv hn hQ
  obtain ⟨z0, z1, z2⟩ := HK.out W0 (Below.refl _ _)
  go_enter Tryz.func127, Tryz.ntmps127
  go_wp2_with fail
  clear z0 z1 z2
  refine HW0.out.mono ?_
  rintro e w1 ⟨rfl, hb1⟩
  have HB1 := Lib.hid hb1
  clear hb1
  go_wp2
  go_loopw [26] (fun i wr => Hid (Below W0.heap.size W0 wr) ∧ ∃ k : Nat, k ≤ len ∧ i = .int .i64 (k : Int) ∧ Hid (S.takeL ⟨ga, gb, gc⟩ b ks = S.takeL ⟨ga, gb, gc⟩ b (ks.drop k))) (fun i _ => len - (intOf i).toNat)
  case atStart => exact ⟨HB1, 0, Nat.zero_le _, rfl, rfl⟩
  case round =>
    obtain ⟨HB, k, hk, rfl, HE⟩ := hrel
    by_cases hlt : k < len
    · obtain ⟨bl, o, x, rfl, hbl, hx, hc⟩ := HF.out k hlt
      have c0 : wr.cell? ⟨bl, o + k, none⟩ = some (.int .i64 x) := by
        have h := ((blN HB0.out HB.out).cell (p := ⟨bl, o + k * 1 + 0, none⟩) hbl).trans (hc 0 _ rfl)
        simpa using h
      have hin := HKS.out x (List.mem_of_getElem? hx)
      have hdrop : ks.drop k = x :: ks.drop (k + 1) := by
        have hl := (List.getElem?_eq_some_iff.1 hx)
        rw [List.drop_eq_getElem_cons hl.1, hl.2]
      have HED : Hid (S.takeL ⟨ga, gb, gc⟩ b ks = S.takeL ⟨ga, gb, gc⟩ b (x :: ks.drop (k + 1))) := HE.out.trans (congrArg _ hdrop)
      clear hdrop hc hx hbl
      have hlk := HLOOK.out wr (blN HB0.out HB.out) x hin
      clear hin
      obtain ⟨z0, z1, z2⟩ := HK.out wr HB.out
      cases hl : S.look ⟨ga, gb, gc⟩ x b with
      | none =>
        rw [hl] at hlk
        dsimp only at hlk
        have HEnd := Lib.hid (fun w' hb => HNONE.out _ x w' HED.out hl hb)
        have HLK := Lib.hid hlk
        clear hlk hl
        go_wp2_with fail
        clear z0 z1 z2
        refine HLK.out.mono ?_
        rintro e w2 ⟨rfl, hb2⟩
        have HB2 := Lib.hid (blN HB.out hb2)
        clear hb2
        go_wp2
        refine bodyPost_ret (v := .tuple #[.int .i64 0, .int .i64 0, .int .i64 0, .int .i64 180]) (by simp [results, Tryz.results127, go_sem]) rfl ?_
        exact HEnd.out _ (bl1 (blN HB0.out HB2.out) _)
      | some t =>
        rw [hl] at hlk
        dsimp only at hlk
        have hmc := HLS.out x t hl
        have hfd := fun W => HFIND.out W t hmc
        cases hf : freeP t n.toNat with
        | none =>
          rw [hf] at hfd
          dsimp only at hfd
          have HNext : Hid (S.takeL ⟨ga, gb, gc⟩ b ks = S.takeL ⟨ga, gb, gc⟩ b (ks.drop (k + 1))) := HED.out.trans (HSTEP.out _ x t hl hf)
          have HLK := Lib.hid hlk
          have HFD := Lib.hid hfd
          clear hlk hl hfd hf hmc
          go_wp2_with fail
          clear z0 z1 z2
          refine HLK.out.mono ?_
          rintro e w2 ⟨rfl, hb2⟩
          have HB2 := Lib.hid (blN HB.out hb2)
          clear hb2
          obtain ⟨W3, hW3⟩ : ∃ W, w2.alloc (.cells #[.pointer (some ⟨B, 0, none⟩), .int .i64 (mapAtG ⟨ga, gb, gc⟩ x b), .string t, .int .i64 n] 176) = W := ⟨_, rfl⟩
          have HB3 : Hid (Below W0.heap.size W0 W3) := by rw [← hW3]; exact bl1 HB2.out _
          have HC3 : Hid (W3.heap[w2.heap.size]? = some (.cells #[.pointer (some ⟨B, 0, none⟩), .int .i64 (mapAtG ⟨ga, gb, gc⟩ x b), .string t, .int .i64 n] 176 (0, 0))) := by rw [← hW3]; exact heapNew w2 _
          have y2 := cellOf (k := 2) HC3.out rfl
          have y3 := cellOf (k := 3) HC3.out rfl
          go_wp2_with fail
          clear y2 y3 hW3
          refine (HFD.out _).mono ?_
          rintro e w4 ⟨rfl, hb4⟩
          have HB4 := Lib.hid (blN HB3.out hb4)
          clear hb4
          go_wp2
          go_roundw
          case rel => exact ⟨HB4, k + 1, by omega, by go_num, HNext⟩
          case measure => simp [intOf]; omega
        | some p =>
          rw [hf] at hfd
          dsimp only at hfd
          have hst := fun (W : World) (hW : Below w.heap.size w W) => HSET.out W hW x t p (HFM.out t p hmc hf)
          have HEnd := Lib.hid (fun W w' hb hs => HTOOK.out _ x t p W w' HED.out hl hf hb hs)
          have HLK := Lib.hid hlk
          have HFD := Lib.hid hfd
          have HST := Lib.hid hst
          clear hlk hl hfd hf hmc hst
          obtain ⟨a, ha⟩ : ∃ a, mapAtG ⟨ga, gb, gc⟩ x b = a := ⟨_, rfl⟩
          rw [ha] at HLK HEnd HST
          clear ha
          go_wp2_with fail
          clear z0 z1 z2
          refine HLK.out.mono ?_
          rintro e w2 ⟨rfl, hb2⟩
          have HB2 := Lib.hid (blN HB.out hb2)
          clear hb2
          obtain ⟨W3, hW3⟩ : ∃ W, w2.alloc (.cells #[.pointer (some ⟨B, 0, none⟩), .int .i64 a, .string t, .int .i64 n] 176) = W := ⟨_, rfl⟩
          have HB3 : Hid (Below W0.heap.size W0 W3) := by rw [← hW3]; exact bl1 HB2.out _
          have HC3 : Hid (W3.heap[w2.heap.size]? = some (.cells #[.pointer (some ⟨B, 0, none⟩), .int .i64 a, .string t, .int .i64 n] 176 (0, 0))) := by rw [← hW3]; exact heapNew w2 _
          have y2 := cellOf (k := 2) HC3.out rfl
          have y3 := cellOf (k := 3) HC3.out rfl
          go_wp2_with fail
          clear y2 y3 hW3
          refine (HFD.out _).mono ?_
          rintro e w4 ⟨rfl, hb4⟩
          have HB4 := Lib.hid (blN HB3.out hb4)
          have HC4 := Lib.hid (heapOld hb4 HC3.out)
          clear hb4
          have y0 := cellOf (k := 0) HC4.out rfl
          have y1 := cellOf (k := 1) HC4.out rfl
          have y2 := cellOf (k := 2) HC4.out rfl
          have y3 := cellOf (k := 3) HC4.out rfl
          go_wp2_with fail
          clear y0 y1 y2 y3
          refine (HST.out _ (blN HB0.out HB4.out)).mono ?_
          rintro e w5 ⟨rfl, hs5⟩
          have HF5 := Lib.hid (HEnd.out _ _ (blN HB0.out HB4.out) hs5)
          clear hs5
          go_wp2
          refine bodyPost_ret (v := .tuple #[.int .i64 x, .int .i64 (p : Int), .int .i64 (S.changeN a p oneB []), .int .i64 (S.changeC a p oneB [])]) (by simp [results, Tryz.results127, go_sem]) rfl ?_
          exact HF5.out
    · obtain rfl : k = len := by omega
      have HEnd := Lib.hid (fun w' hb => HEND.out w' (HE.out.trans (congrArg _ (List.drop_of_length_le (by have := HN.out; omega)))) hb)
      go_wp2
      refine bodyPost_ret (v := .tuple #[.int .i64 0, .int .i64 0, .int .i64 0, .int .i64 109]) (by simp [results, Tryz.results127, go_sem]) rfl ?_
      exact HEnd.out _ (blN HB0.out HB.out)
end
end Go.Proofs.YtgofmnhfajmbfaaGreatDoor
