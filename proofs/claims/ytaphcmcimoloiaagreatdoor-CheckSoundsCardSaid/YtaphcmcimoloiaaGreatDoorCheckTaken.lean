/-
  Walks of layer 19: taken, reached.
-/
import Derived.Test.YtaphcmcimoloiaaGreatDoorCheckVisit
import Derived.Test.YtaphcmcimoloiaaGreatDoorAllA
import Derived.Test.YtaphcmcimoloiaaGreatDoorSpC
namespace Go.Proofs.YtaphcmcimoloiaaGreatDoor
open Go Go.RowKit Txt Sp

def onesOf (ps : List Nat) (l : List (Int × Bool)) : List (Int × Bool) := ps.foldl (fun l (p : Nat) => IM.setM l (p : Int) true) l
theorem getM_ones : ∀ (ps : List Nat) (l : List (Int × Bool)) (p : Nat), (IM.getM (onesOf ps l) (p : Int)).getD false = (decide (p ∈ ps) || (IM.getM l (p : Int)).getD false)
  | [], l, p => by simp [onesOf]
  | q :: r, l, p => by
    have ih := getM_ones r (IM.setM l (q : Int) true) p
    show (IM.getM (onesOf r (IM.setM l (q : Int) true)) (p : Int)).getD false = _
    rw [ih, IM.getM_set]
    by_cases h : (p : Int) = (q : Int)
    · have h' : p = q := by omega
      rw [if_pos h]
      simp [h']
    · have h' : ¬ p = q := by omega
      rw [if_neg h]
      simp [h']
theorem onesOf_snoc (ps : List Nat) (p : Nat) (l : List (Int × Bool)) : onesOf (ps ++ [p]) l = IM.setM (onesOf ps l) (p : Int) true := by
  unfold onesOf
  rw [List.foldl_append]
  rfl
def TknAt (w w' : World) (v : Value) (r : Option (List Nat)) : Prop :=
  (r = none ∧ v = .map none) ∨ ∃ ps mb l, r = some ps ∧ v = .map (some mb) ∧ IM.MapAt Value.bool w' mb l ∧ w.heap.size ≤ mb ∧ ∀ p : Nat, (IM.getM l (p : Int)).getD false = decide (p ∈ ps)
section
variable {w w1 w' : World} {base B N : Nat} {g : Sp.Geom} {vs : Value} {m : LookP} {t t' : Sp.Look} {D D' K : Nat → Prop} {S : Int → ByteArray}
def TakenPost (w : World) (base B : Nat) (g : Sp.Geom) (vs : Value) (m : LookP) (D : Nat → Prop) (r : Sp.Look × Option (List Nat)) (e : Ending) (w' : World) : Prop :=
  ∃ v, e = .returned v ∧ TknAt w w' v r.2 ∧ LookTo w base B g vs m r.1 D w' D
set_option maxHeartbeats 4000000 in
set_option maxRecDepth 20000 in
theorem ctaken_any (h : LookS w base B N g vs m S t D) {k : Int} (hk : 0 ≤ k ∧ k < g.groups) (b : Bool) (n : Int) : Calls Tryz.prog 210 #[pt B, .int .i64 k, .bool b, .int .i64 n] w (TakenPost w base B g vs m D (t.taken g S k b n)) := by
  have hin := map_in h.ok hk b
  have hma := mapAt_in h.ok hk b
  have hmap := fun W : World => gmap_any W g k b
  rw [hma] at hmap
  dsimp only at hmap
  rw [← h.size] at hin
  obtain ⟨a, ha⟩ : ∃ a : Nat, mapAtG g k b = (a : Int) := ⟨(mapAtG g k b).toNat, by omega⟩
  rw [ha] at hin hmap
  have haN : a < N := by omega
  obtain ⟨s, hs⟩ : ∃ s, S a = s := ⟨_, rfl⟩
  have htk : t.taken g S k b n = if mapC s n = 0 then (t, some (placesL s.data.toList n.toNat)) else (t.tell 1 a, none) := by
    unfold Look.taken
    rw [hma]
    dsimp only
    rw [ha, hs]
  obtain ⟨r, hr⟩ : ∃ r, t.taken g S k b n = r := ⟨_, rfl⟩
  rw [hr] at htk ⊢
  have hpl := fun W : World => mplaces_any W s n
  have hpn : (placesL s.data.toList n.toNat).length ≤ 64 ∨ mapC s n ≠ 0 := by
    by_cases h0 : mapC s n = 0
    · have := mapC_zero h0
      have := placesL_length s.data.toList n.toNat
      exact Or.inl (by omega)
    · exact Or.inr h0
  unfold PlacesPost at hpl
  obtain ⟨c, hc⟩ : ∃ c, mapC s n = c := ⟨_, rfl⟩
  rw [hc] at htk hpl hpn
  obtain ⟨ps, hps⟩ : ∃ l, placesL s.data.toList n.toNat = l := ⟨_, rfl⟩
  rw [hps] at htk hpl hpn
  obtain ⟨bv, o, cap, rfl, hN6, -⟩ := h.secs.facts haN
  have HK : Hid (∀ W, Below w.heap.size w W → W.cell? ⟨bv, o + a, none⟩ = some (.string s)) := fun W hW => by
    obtain ⟨b', o', cap', e', -, hc'⟩ := (h.below hW).secs.facts haN
    cases e'
    rw [hs] at hc'
    exact hc'
  have ha0 : (0 : Int) ≤ (a : Int) := by omega
  have ha1 : (a : Int) < (N : Int) := by omega
  obtain ⟨⟨c0, c1, c2⟩, c3, -⟩ := h.look.cells
  obtain ⟨ga, gb, gc⟩ := g
  unfold gV at hmap
  dsimp only at hmap c0 c1 c2
  have hmm := @run_makeMap Tryz.prog
  have HH := Lib.hid h
  have HTk := Lib.hid htk
  have HPn := Lib.hid hpn
  have HMAP := Lib.hid hmap
  have HPL := Lib.hid hpl
  clear hmap hpl
  clear h hk hin hma ha hs hr hc hps htk hpn
  unfold pt
  go_enter Tryz.func210, Tryz.ntmps210
  go_wp2_with fail
  clear c0 c1 c2 c3
  refine (HMAP.out _).mono ?_
  rintro e w1 ⟨rfl, hb1⟩
  have HB1 := Lib.hid hb1
  have z := HK.out w1 hb1
  obtain ⟨-, c3, -⟩ := (HH.out.below hb1).look.cells
  clear hb1
  go_wp2_with fail
  clear z c3
  refine (HPL.out _).mono ?_
  rintro e w2 ⟨v2, rfl, ho2, hb2⟩
  have HB2 := Lib.hid (blN HB1.out hb2)
  clear hb2
  by_cases hc0 : c = 0
  · rw [if_pos hc0] at ho2
    have HR : Hid (r = (t, some ps)) := by show _ = _; rw [HTk.out, if_pos hc0]
    have hlen : ps.length ≤ 64 := HPn.out.elim id (fun h => absurd hc0 h)
    have q0 : (c == 0) = true := by rw [hc0]; rfl
    have q1 : (c != 0) = false := by rw [hc0]; rfl
    have hrow : RowAt w2 v2 1 (ps.map (fun n : Nat => [Value.int .i64 (n : Int)])) := RowAt.own (base := w1.heap.size) (e := 3) (fun x hx => by
      obtain ⟨y, _, rfl⟩ := List.mem_map.1 hx
      rfl) (by
      rw [List.length_map, List.flatten_eq_flatMap, List.flatMap_map]
      have e : (ps.flatMap (id ∘ fun n : Nat => [Value.int .i64 (n : Int)])) = ps.map (fun n : Nat => Value.int .i64 (n : Int)) := by rw [List.map_eq_flatMap]; rfl
      show w2.ownsRow _ _ _ _ _ (ps.flatMap (id ∘ fun n : Nat => [Value.int .i64 (n : Int)]))
      rw [e]
      exact ho2)
    obtain ⟨ad, len, pcap, rfl, HN, hn2, HF⟩ := RowAt.facts hrow
    have hlen' : len ≤ 64 := by rw [HN.out]; exact hlen
    obtain ⟨W3, hW3⟩ : ∃ W, w2.alloc (.map #[] 0) = W := ⟨_, rfl⟩
    have HB3 : Hid (Below w2.heap.size w2 W3) := by rw [← hW3]; exact bl2 _
    have HM3 : Hid (IM.MapAt Value.bool W3 w2.heap.size (onesOf (ps.take 0) [])) := by
      show IM.MapAt _ _ _ _
      rw [← hW3]
      exact ⟨_, heapNew w2 _, (IM.IsMap.new : IM.IsMap Value.bool _ [])⟩
    clear hc0 ho2 hrow hlen
    go_wp2_with fail
    clear hW3
    go_loopw [46] (fun i46 wr => ∃ j : Nat, j ≤ len ∧ i46 = .int .i64 (j : Int) ∧ Hid (Turn (fun q => q = w2.heap.size) W3 wr ∧ IM.MapAt Value.bool wr w2.heap.size (onesOf (ps.take j) []))) (fun i46 _ => len - (intOf i46).toNat)
    case atStart => exact ⟨0, Nat.zero_le _, rfl, Turn.refl _ _, HM3.out⟩
    case round =>
      obtain ⟨j, hj, rfl, HRel⟩ := hrel
      have HZ3 : Hid (w2.heap.size < wr.heap.size) := HRel.out.2.lt
      by_cases hlt : j < len
      · obtain ⟨bl, oo, x, rfl, hbl, hx, hcl⟩ := HF.out j hlt
        have c0 : wr.cell? ⟨bl, oo + j, none⟩ = some (.int .i64 (x : Int)) := by
          have h1 := hcl 0 _ rfl
          rw [Nat.mul_one, Nat.add_zero] at h1
          have h2 : W3.cell? ⟨bl, oo + j, none⟩ = some (.int .i64 (x : Int)) := (HB3.out.cell (p := ⟨bl, oo + j, none⟩) hbl).trans h1
          have h3 := HRel.out.1.block bl (Nat.lt_of_lt_of_le hbl HB3.out.size) (fun e => by have e : bl = w2.heap.size := e; omega)
          unfold World.cell? at h2 ⊢
          simp only at h2 ⊢
          rw [h3]
          exact h2
        obtain ⟨o', hrun, ho'⟩ := IM.run_update (P := Tryz.prog) Tryz.underlying199 Tryz.underlying3 HRel.out.2 (x : Int) true
        obtain ⟨W4, hW4⟩ : ∃ W, ChangeMaps.setBlock wr w2.heap.size o' = W := ⟨_, rfl⟩
        have HR1 : Hid (Turn (fun q => q = w2.heap.size) W3 W4 ∧ IM.MapAt Value.bool W4 w2.heap.size (onesOf (ps.take (j + 1)) [])) := by
          rw [← hW4]
          have ht : ps.take (j + 1) = ps.take j ++ [x] := by rw [List.take_add_one, hx]; rfl
          exact ⟨HRel.out.1.trans (setBlock_turn wr w2.heap.size o') (fun _ _ h => h) (fun _ _ h => h), by rw [ht, onesOf_snoc]; exact ⟨o', IM.heap_setBlock_at HZ3.out, ho'⟩⟩
        rw [hW4] at hrun
        clear hx hcl hbl ho' HRel hW4
        go_wp2
        go_roundw
        case rel => exact ⟨j + 1, by omega, by go_num, HR1⟩
        case measure => simp [intOf]; omega
      · have hjl : j = len := by omega
        subst hjl
        have HEnd : Hid (TakenPost w base B ⟨ga, gb, gc⟩ (.slice (some ⟨bv, o, none⟩) N cap) m D r (.returned (.map (some w2.heap.size))) wr) := by
          have ht : ps.take j = ps := List.take_of_length_le (by rw [HN.out]; exact Nat.le_refl _)
          have hm := HRel.out.2
          rw [ht] at hm
          have hb : Below w.heap.size w wr := (blN HB2.out HB3.out).trans (HRel.out.1.below (fun q hq => by have := HB2.out.size; omega) (blN HB2.out HB3.out).size)
          rw [HR.out]
          exact ⟨_, rfl, Or.inr ⟨ps, w2.heap.size, _, rfl, rfl, hm, HB2.out.size, fun p => by rw [getM_ones]; simp [IM.getM]⟩, LookTo.none HH.out.look hb⟩
        clear hj hlt HRel
        go_wp2
        go_ret
        exact HEnd.out
  · have HR : Hid (r = (t.tell 1 a, none)) := by show _ = _; rw [HTk.out, if_neg hc0]
    have q0 : (c == 0) = false := beq_eq_false_iff_ne.2 hc0
    have q1 : (c != 0) = true := by simpa using hc0
    have htl := ctell_any (HH.out.below HB2.out).look 1 (a : Int)
    unfold pt at htl
    have HTL := Lib.hid htl
    clear htl
    clear hc0 ho2
    go_wp2_with fail
    refine HTL.out.mono ?_
    rintro e w3 ⟨rfl, hto3⟩
    have HEnd : Hid (TakenPost w base B ⟨ga, gb, gc⟩ (.slice (some ⟨bv, o, none⟩) N cap) m D r (.returned (.map none)) w3) := by
      rw [HR.out]
      exact ⟨_, rfl, Or.inl ⟨rfl, rfl⟩, LookTo.ahead HB2.out hto3⟩
    clear hto3
    go_wp2
    go_ret
    exact HEnd.out
end
end Go.Proofs.YtaphcmcimoloiaaGreatDoor
