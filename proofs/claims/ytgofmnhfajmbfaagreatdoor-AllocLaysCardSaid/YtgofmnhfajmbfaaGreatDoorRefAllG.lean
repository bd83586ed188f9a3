/-
  Walks of the reference's layer 3: All, Size, What.
-/
import Derived.Test.YtgofmnhfajmbfaaGreatDoorRefTable
namespace Go.Proofs.YtgofmnhfajmbfaaGreatDoor
open Go Go.RowKit Txt Sp

def thC (x : Sp.Thing) : List Value := [.int .i64 x.kind, .int .i64 x.number, .int .i64 x.group, .int .i64 x.place]
theorem infoThing : (Tryz.prog.info? 94).map (fun i => (i.zero, i.size, i.bytes)) = some (some (.agg #[.int .i64 0, .int .i64 0, .int .i64 0, .int .i64 0]), 4, 32) := by kernel_rfl
def Things (base : Nat) (w : World) (v : Value) (l : List Sp.Thing) : Prop := OwnR 94 4 thC base w v l
def L1 (k : Nat) : List Sp.Thing := [⟨0, 0, 0, 0⟩, ⟨1, 0, 0, 0⟩] ++ (List.range k).map (fun i : Nat => (⟨2, (i : Int), 0, 0⟩ : Sp.Thing))
def L2 (g : Sp.Geom) (T k : Nat) : List Sp.Thing := L1 T ++ (List.range k).flatMap (groupL g)
def L3 (g : Sp.Geom) (T k i : Nat) : List Sp.Thing := L2 g T k ++ ([⟨3, k, k, 0⟩, ⟨4, k, k, 0⟩] ++ (List.range i).map (fun i : Nat => (⟨5, (k : Int) * g.inodes + i + 1, k, i⟩ : Sp.Thing)))
def L4 (g : Sp.Geom) (T k i : Nat) : List Sp.Thing := L3 g T k g.inodes.toNat ++ (List.range i).map (fun i : Nat => (⟨6, (k : Int) * g.blocks + i, k, i⟩ : Sp.Thing))
theorem L1_snoc (k : Nat) : L1 (k + 1) = L1 k ++ [⟨2, (k : Int), 0, 0⟩] := by
  unfold L1
  rw [List.range_succ, List.map_append, List.map_cons, List.map_nil, List.append_assoc]
theorem L2_zero (g : Sp.Geom) (T : Nat) : L2 g T 0 = L1 T := by
  unfold L2
  rw [List.range_zero, List.flatMap_nil, List.append_nil]
theorem L3_zero (g : Sp.Geom) (T k : Nat) : L3 g T k 0 = L2 g T k ++ [⟨3, k, k, 0⟩] ++ [⟨4, k, k, 0⟩] := by
  unfold L3
  rw [List.range_zero, List.map_nil, List.append_assoc]
  rfl
theorem L3_snoc (g : Sp.Geom) (T k i : Nat) : L3 g T k (i + 1) = L3 g T k i ++ [⟨5, (k : Int) * g.inodes + i + 1, k, i⟩] := by
  unfold L3
  rw [List.range_succ, List.map_append, List.map_cons, List.map_nil, List.append_assoc, List.append_assoc]
theorem L4_zero (g : Sp.Geom) (T k : Nat) : L4 g T k 0 = L3 g T k g.inodes.toNat := by
  unfold L4
  rw [List.range_zero, List.map_nil, List.append_nil]
theorem L4_snoc (g : Sp.Geom) (T k i : Nat) : L4 g T k (i + 1) = L4 g T k i ++ [⟨6, (k : Int) * g.blocks + i, k, i⟩] := by
  unfold L4
  rw [List.range_succ, List.map_append, List.map_cons, List.map_nil, List.append_assoc]
theorem L2_succ (g : Sp.Geom) (T k : Nat) : L2 g T (k + 1) = L4 g T k g.blocks.toNat := by
  unfold L4 L3 L2
  rw [List.range_succ, List.flatMap_append, List.flatMap_cons, List.flatMap_nil, List.append_nil]
  unfold groupL
  simp only [List.append_assoc]
theorem L2_all (g : Sp.Geom) : L2 g ((g.regions + 15) / 16).toNat g.groups.toNat = allL g := rfl
section
variable {g : Sp.Geom} (h : g.ok)
include h
theorem L2_le {T k : Nat} (hT : T ≤ 9) (hk : k ≤ 4) : (L2 g T k).length ≤ 403 := by
  have h1 := flat_length (groupL_length h) k
  have h2 := Geom.long_bd h
  have h3 : k * g.long.toNat ≤ 4 * 98 := Nat.mul_le_mul hk (by omega)
  unfold L2 L1
  rw [List.length_append, h1, List.length_append, List.length_map, List.length_range]
  show 2 + T + _ ≤ 403
  omega
theorem L3_le {T k i : Nat} (hT : T ≤ 9) (hk : k ≤ 4) (hi : i ≤ 32) : (L3 g T k i).length ≤ 437 := by
  have h1 := L2_le h hT hk
  unfold L3
  rw [List.length_append, List.length_append, List.length_map, List.length_range]
  show _ + (2 + i) ≤ 437
  omega
theorem L4_le {T k i : Nat} (hT : T ≤ 9) (hk : k ≤ 4) (hi : i ≤ 64) : (L4 g T k i).length ≤ 501 := by
  have h1 := L3_le h hT hk (i := g.inodes.toNat) (by have := h.2.2.2.1; omega)
  unfold L4
  rw [List.length_append, List.length_map, List.length_range]
  omega
end
def AllPost (g : Sp.Geom) (w : World) (e : Ending) (w' : World) : Prop := ∃ v, e = .returned v ∧ Things w.heap.size w' v (allL g) ∧ Below w.heap.size w w'
section
set_option maxHeartbeats 8000000
set_option maxRecDepth 20000 in
theorem rgall_any (w : World) (g : Sp.Geom) (hg : g.ok) : Calls Tryz.prog 45 #[gV g] w (AllPost g w) := by
  have hreg := fun W : World => rgregions_any W g
  have hbd := Geom.regions_bd hg
  have hl2 := fun (T k : Nat) (hT : T ≤ 9) (hk : k ≤ 4) => L2_le hg hT hk
  have hl3 := fun (T k i : Nat) (hT : T ≤ 9) (hk : k ≤ 4) (hi : i ≤ 32) => L3_le hg hT hk hi
  have hl4 := fun (T k i : Nat) (hT : T ≤ 9) (hk : k ≤ 4) (hi : i ≤ 64) => L4_le hg hT hk hi
  have e2 := L2_succ g
  have e30 := L3_zero g
  have e3 := L3_snoc g
  have e40 := L4_zero g
  have e4 := L4_snoc g
  have e20 := L2_zero g
  have hall := L2_all g
  have hok := hg
  obtain ⟨T, hT⟩ : ∃ T, ((g.regions + 15) / 16).toNat = T := ⟨_, rfl⟩
  rw [hT] at hall
  obtain ⟨R, hR⟩ : ∃ R, g.regions = R := ⟨_, rfl⟩
  rw [hR] at hT hbd hreg
  obtain ⟨ga, gb, gc⟩ := g
  obtain ⟨g1, g2, g3, g4, g5, g6⟩ := hok
  simp only at g1 g2 g3 g4 g5 g6
  obtain ⟨ng, rfl⟩ : ∃ n : Nat, ga = (n : Int) := ⟨ga.toNat, by omega⟩
  obtain ⟨ni, rfl⟩ : ∃ n : Nat, gb = (n : Int) := ⟨gb.toNat, by omega⟩
  obtain ⟨nb, rfl⟩ : ∃ n : Nat, gc = (n : Int) := ⟨gc.toNat, by omega⟩
  simp only [Int.toNat_natCast] at hall e2 e40 e3 e4
  have hfin : ∀ v w', Things w.heap.size w' v (L2 ⟨(ng : Int), (ni : Int), (nb : Int)⟩ T ng) → Below w.heap.size w w' → AllPost ⟨(ng : Int), (ni : Int), (nb : Int)⟩ w (.returned v) w' := fun v w' ho hb => ⟨v, rfl, by rw [← hall]; exact ho, hb⟩
  obtain ⟨Q, hQ⟩ : ∃ Q, AllPost ⟨(ng : Int), (ni : Int), (nb : Int)⟩ w = Q := ⟨_, rfl⟩
  rw [hQ] at hfin ⊢
  obtain ⟨M2, hM2⟩ : ∃ M, L2 ⟨(ng : Int), (ni : Int), (nb : Int)⟩ T = M := ⟨_, rfl⟩
  obtain ⟨M3, hM3⟩ : ∃ M, L3 ⟨(ng : Int), (ni : Int), (nb : Int)⟩ T = M := ⟨_, rfl⟩
  obtain ⟨M4, hM4⟩ : ∃ M, L4 ⟨(ng : Int), (ni : Int), (nb : Int)⟩ T = M := ⟨_, rfl⟩
  have hT9 : T ≤ 9 := by omega
  replace hl2 := fun k hk => hl2 T k hT9 hk
  replace hl3 := fun k i hk hi => hl3 T k i hT9 hk hi
  replace hl4 := fun k i hk hi => hl4 T k i hT9 hk hi
  replace e2 := e2 T
  replace e30 := e30 T
  replace e3 := e3 T
  replace e40 := e40 T
  replace e4 := e4 T
  replace e20 := e20 T
  rw [hM2] at hl2 e2 e30 e20 hfin
  rw [hM3] at hl3 e30 e3 e40
  rw [hM4] at hl4 e40 e4 e2
  have e1 := L1_snoc
  have HL1 : Hid (∀ k, (L1 k).length ≤ 2 + k) := fun k => by
    unfold L1
    rw [List.length_append, List.length_map, List.length_range]
    exact Nat.le_refl _
  unfold gV at hreg ⊢
  simp only at hreg ⊢
  have HT := Lib.hid hT
  have HREG := Lib.hid hreg
  have HL2 := Lib.hid hl2
  have HL3 := Lib.hid hl3
  have HL4 := Lib.hid hl4
  have E1 := Lib.hid e1
  have E2 := Lib.hid e2
  have E30 := Lib.hid e30
  have E3 := Lib.hid e3
  have E40 := Lib.hid e40
  have E4 := Lib.hid e4
  have E20 := Lib.hid e20
  have HFIN := Lib.hid hfin
  clear hreg hl2 hl3 hl4 e1 e2 e30 e3 e40 e4 e20 hfin
  clear hQ hM2 hM3 hM4 hR hall hg hT
  obtain ⟨W0, hW0⟩ : ∃ W, w.alloc (.cells #[.int .i64 (ng:Int), .int .i64 (ni:Int), .int .i64 (nb:Int)] 23) = W := ⟨_, rfl⟩
  have hk := g_keep hW0
  have HB0 := Lib.hid hk.1
  have HK := Lib.hid hk.2
  clear hk
  go_enter Tryz.func45, Tryz.ntmps45
  go_wp2_with fail
  have HO0 : Hid (Things W0.heap.size (W0.alloc (.cells #[.int .i64 0, .int .i64 0, .int .i64 0, .int .i64 0, .int .i64 1, .int .i64 0, .int .i64 0, .int .i64 0] 94)) (.slice (some ⟨W0.heap.size, 0, none⟩) 2 2) (L1 0)) := OwnR.block (heapNew W0 _) rfl rfl (Nat.le_refl _) (by unfold maxLen; decide)
  have HB1 : Hid (Below W0.heap.size W0 (W0.alloc (.cells #[.int .i64 0, .int .i64 0, .int .i64 0, .int .i64 0, .int .i64 1, .int .i64 0, .int .i64 0, .int .i64 0] 94))) := bl2 _
  go_loopw [3, 4] (fun v i wr => ∃ k : Nat, k ≤ T ∧ i = .int .i64 (k : Int) ∧ Hid (Things W0.heap.size wr v (L1 k)) ∧ Hid (Below W0.heap.size W0 wr)) (fun _ i _ => T - (intOf i).toNat)
  case atStart => exact ⟨0, Nat.zero_le _, rfl, HO0, HB1⟩
  case round =>
    obtain ⟨k, hk, rfl, HO, HB⟩ := hrel
    obtain ⟨z0, z1, z2⟩ := HK.out wr HB.out
    obtain ⟨q, hq⟩ : ∃ q, k * 16 = q := ⟨_, rfl⟩
    have m1 : IntKind.i64.wrap ((k : Int) * 16) = (q : Int) := by rw [IntWalk.i64_in _ (by omega)]; omega
    go_wp2_with fail
    refine (HREG.out _).mono ?_
    rintro e w2 ⟨rfl, hb2⟩
    have HO2 : Hid (Things W0.heap.size w2 u3 (L1 k)) := OwnR.below HO.out hb2
    have HB2 := Lib.hid (blN HB.out hb2)
    clear hb2 z0 z1 z2
    have hlen := HL1.out k
    by_cases hlt : k < T
    · have f1 : decide ((q : Int) < R) = true := decide_eq_true (by have := HT.out; omega)
      obtain ⟨ia4, ib4, ic4, id4, ie4⟩ := info_parts infoThing
      have hrow4 := HO2.out
      unfold OwnR at hrow4
      have HRow4 := Lib.hid hrow4
      clear hrow4
      have HIb4 := Lib.hid ib4
      have HIc4 := Lib.hid ic4
      have HId4 := Lib.hid id4
      have HIe4 := Lib.hid ie4
      clear ib4 ic4 id4 ie4
      go_wp2_with (at_builtin; refine wpList_append_lies _ rfl _ _ _ rfl W0.heap.size 94 ia4 _ 4 32 Tryz.underlying90 HIb4.out HIc4.out HId4.out HIe4.out rfl (by decide) _ _ _ rfl (HRow4.out.alloc _) ⟨w2.heap.size, 0, none⟩ 1 1 [.int .i64 2, .int .i64 (k : Int), .int .i64 0, .int .i64 0] rfl rfl (World.news_of_block (cs := #[.int .i64 2, .int .i64 (k : Int), .int .i64 0, .int .i64 0]) (t := 94) (fr := (0, 0)) (heapNew w2 _)) (by simp [Value.oneCell']) (by omega) ?c1 ?c2 ?c3 (w2.heap.size + 1) (by simp) ?_)
      case c1 => unfold maxLen; omega
      case c2 => omega
      case c3 => have := HB2.out.size; first | (simp; done) | (simp; omega)
      intro g4 cap4 w4 hown4 hgrow4 hat4 hlt4
      have HO4 := Lib.hid (OwnR.snoc (f := thC) (x := ⟨2,(k:Int),0,0⟩) hown4 rfl rfl)
      have HB4 : Hid (Below W0.heap.size _ w4) := Below.grown (bl1 HB2.out _) hgrow4 (bl1 HB2.out _).size (fun q hq => (HRow4.out.lt q hq).1)
      clear hown4 hgrow4 hat4 hlt4 HRow4
      have HO5 : Hid (Things W0.heap.size w4 (.slice (some ⟨g4, 0, none⟩) ((L1 k).length + 1) cap4) (L1 (k + 1))) := by rw [E1.out]; exact HO4.out
      clear HO4
      go_wp2
      go_roundw
      case rel => exact ⟨k + 1, by omega, by go_num, HO5, HB4⟩
      case measure => simp [intOf]; omega
    · have f1 : decide ((q : Int) < R) = false := decide_eq_false (by have := HT.out; omega)
      have HO3 : Hid (Things W0.heap.size w2 u3 (M2 0)) := by
        rw [E20.out]
        obtain rfl : k = T := by omega
        exact HO2.out
      clear hlt hk HO HB HO0 HB1 HO2 hlen m1 hq
      go_wp2_with fail
      go_loopw [3, 5, 6, 7] (fun v i _ _ wr => ∃ k : Nat, k ≤ ng ∧ i = .int .i64 (k : Int) ∧ Hid (Things W0.heap.size wr v (M2 k)) ∧ Hid (Below W0.heap.size W0 wr)) (fun _ i _ _ _ => ng - (intOf i).toNat)
      case atStart => exact ⟨0, Nat.zero_le _, rfl, HO3, HB2⟩
      case round =>
        obtain ⟨k, hk, rfl, HO, HB⟩ := hrel
        obtain ⟨z0, z1, z2⟩ := HK.out wr HB.out
        have hlen := HL2.out k (by omega)
        by_cases hlt : k < ng
        · have f2 : decide ((k : Int) < (ng : Int)) = true := decide_eq_true (by omega)
          obtain ⟨ia3, ib3, ic3, id3, ie3⟩ := info_parts infoThing
          have hrow3 := HO.out
          unfold OwnR at hrow3
          have HRow3 := Lib.hid hrow3
          clear hrow3
          have HIb3 := Lib.hid ib3
          have HIc3 := Lib.hid ic3
          have HId3 := Lib.hid id3
          have HIe3 := Lib.hid ie3
          clear ib3 ic3 id3 ie3
          go_wp2_with (at_builtin; refine wpList_append_lies _ rfl _ _ _ rfl W0.heap.size 94 ia3 _ 4 32 Tryz.underlying90 HIb3.out HIc3.out HId3.out HIe3.out rfl (by decide) _ _ _ rfl (HRow3.out.alloc _) ⟨wr.heap.size, 0, none⟩ 1 1 [.int .i64 3, .int .i64 (k : Int), .int .i64 (k : Int), .int .i64 0] rfl rfl (World.news_of_block (cs := #[.int .i64 3, .int .i64 (k : Int), .int .i64 (k : Int), .int .i64 0]) (t := 94) (fr := (0, 0)) (heapNew wr _)) (by simp [Value.oneCell']) (by omega) ?c1 ?c2 ?c3 (wr.heap.size + 1) (by simp) ?_)
          case c1 => unfold maxLen; omega
          case c2 => omega
          case c3 => have := HB.out.size; first | (simp; done) | (simp; omega)
          intro g3 cap3 w3 hown3 hgrow3 hat3 hlt3
          have HO3 := Lib.hid (OwnR.snoc (f := thC) (x := ⟨3,(k:Int),(k:Int),0⟩) hown3 rfl rfl)
          have HB3 : Hid (Below W0.heap.size _ w3) := Below.grown (bl1 HB.out _) hgrow3 (bl1 HB.out _).size (fun q hq => (HRow3.out.lt q hq).1)
          clear hown3 hgrow3 hat3 hlt3 HRow3
          clear z0 z1 z2
          have hlen2 : (M2 k ++ [(⟨3, (k : Int), (k : Int), 0⟩ : Sp.Thing)]).length ≤ 404 := by rw [List.length_append]; show _ + 1 ≤ 404; omega
          have e30 := E30.out k
          obtain ⟨N2, hN2⟩ : ∃ z, M2 k ++ [(⟨3, (k : Int), (k : Int), 0⟩ : Sp.Thing)] = z := ⟨_, rfl⟩
          rw [hN2] at HO3 hlen2 e30
          have E31 := Lib.hid e30
          clear hN2 e30
          obtain ⟨ia4, ib4, ic4, id4, ie4⟩ := info_parts infoThing
          have hrow4 := HO3.out
          unfold OwnR at hrow4
          have HRow4 := Lib.hid hrow4
          clear hrow4
          have HIb4 := Lib.hid ib4
          have HIc4 := Lib.hid ic4
          have HId4 := Lib.hid id4
          have HIe4 := Lib.hid ie4
          clear ib4 ic4 id4 ie4
          go_wp2_with (at_builtin; refine wpList_append_lies _ rfl _ _ _ rfl W0.heap.size 94 ia4 _ 4 32 Tryz.underlying90 HIb4.out HIc4.out HId4.out HIe4.out rfl (by decide) _ _ _ rfl (HRow4.out.alloc _) ⟨w3.heap.size, 0, none⟩ 1 1 [.int .i64 4, .int .i64 (k : Int), .int .i64 (k : Int), .int .i64 0] rfl rfl (World.news_of_block (cs := #[.int .i64 4, .int .i64 (k : Int), .int .i64 (k : Int), .int .i64 0]) (t := 94) (fr := (0, 0)) (heapNew w3 _)) (by simp [Value.oneCell']) (by omega) ?c1 ?c2 ?c3 (w3.heap.size + 1) (by simp) ?_)
          case c1 => unfold maxLen; omega
          case c2 => omega
          case c3 => have := HB3.out.size; first | (simp; done) | (simp; omega)
          intro g4 cap4 w4 hown4 hgrow4 hat4 hlt4
          have HO4 := Lib.hid (OwnR.snoc (f := thC) (x := ⟨4,(k:Int),(k:Int),0⟩) hown4 rfl rfl)
          have HB4 : Hid (Below W0.heap.size _ w4) := Below.grown (bl1 HB3.out _) hgrow4 (bl1 HB3.out _).size (fun q hq => (HRow4.out.lt q hq).1)
          clear hown4 hgrow4 hat4 hlt4 HRow4
          rw [← E31.out] at HO4
          clear hlen hlen2 HO3 HB3
          go_wp2_with fail
          go_loopw [3, 6] (fun v i wr => ∃ j : Nat, j ≤ ni ∧ i = .int .i64 (j : Int) ∧ Hid (Things W0.heap.size wr v (M3 k j)) ∧ Hid (Below W0.heap.size W0 wr)) (fun _ i _ => ni - (intOf i).toNat)
          case atStart => exact ⟨0, Nat.zero_le _, rfl, HO4, HB4⟩
          case round =>
            obtain ⟨j, hj, rfl, HO, HB⟩ := hrel
            obtain ⟨z0, z1, z2⟩ := HK.out wr HB.out
            have hlen := HL3.out k j (by omega) (by omega)
            by_cases hjn : j < ni
            · have f3 : decide ((j : Int) < (ni : Int)) = true := decide_eq_true (by omega)
              have hp0 : k * ni ≤ 4 * 32 := Nat.mul_le_mul (by omega) (by omega)
              obtain ⟨p, hp⟩ : ∃ p, k * ni = p := ⟨_, rfl⟩
              obtain ⟨r, hr⟩ : ∃ r, p + j = r := ⟨_, rfl⟩
              obtain ⟨s, hs⟩ : ∃ s, r + 1 = s := ⟨_, rfl⟩
              have hpi : (k : Int) * (ni : Int) = (p : Int) := by rw [← hp]; exact (Int.natCast_mul _ _).symm
              rw [hp] at hp0
              have m1 : IntKind.i64.wrap ((k : Int) * (ni : Int)) = (p : Int) := by rw [hpi]; exact IntWalk.i64_in _ (by omega)
              have m2 : IntKind.i64.wrap ((p : Int) + (j : Int)) = (r : Int) := by rw [IntWalk.i64_in _ (by omega)]; omega
              have m3 : IntKind.i64.wrap ((r : Int) + 1) = (s : Int) := by rw [IntWalk.i64_in _ (by omega)]; omega
              have HN : Hid ((k : Int) * (ni : Int) + (j : Int) + 1 = (s : Int)) := by show _ = _; rw [hpi]; omega
              clear hp hr hs hpi
              obtain ⟨ia5, ib5, ic5, id5, ie5⟩ := info_parts infoThing
              have hrow5 := HO.out
              unfold OwnR at hrow5
              have HRow5 := Lib.hid hrow5
              clear hrow5
              have HIb5 := Lib.hid ib5
              have HIc5 := Lib.hid ic5
              have HId5 := Lib.hid id5
              have HIe5 := Lib.hid ie5
              clear ib5 ic5 id5 ie5
              go_wp2_with (at_builtin; refine wpList_append_lies _ rfl _ _ _ rfl W0.heap.size 94 ia5 _ 4 32 Tryz.underlying90 HIb5.out HIc5.out HId5.out HIe5.out rfl (by decide) _ _ _ rfl (HRow5.out.alloc _) ⟨wr.heap.size, 0, none⟩ 1 1 [.int .i64 5, .int .i64 (s : Int), .int .i64 (k : Int), .int .i64 (j : Int)] rfl rfl (World.news_of_block (cs := #[.int .i64 5, .int .i64 (s : Int), .int .i64 (k : Int), .int .i64 (j : Int)]) (t := 94) (fr := (0, 0)) (heapNew wr _)) (by simp [Value.oneCell']) (by omega) ?c1 ?c2 ?c3 (wr.heap.size + 1) (by simp) ?_)
              case c1 => unfold maxLen; omega
              case c2 => omega
              case c3 => have := HB.out.size; first | (simp; done) | (simp; omega)
              intro g5 cap5 w5 hown5 hgrow5 hat5 hlt5
              have HO5 := Lib.hid (OwnR.snoc (f := thC) (x := ⟨5,(s:Int),(k:Int),(j:Int)⟩) hown5 rfl rfl)
              have HB5 : Hid (Below W0.heap.size _ w5) := Below.grown (bl1 HB.out _) hgrow5 (bl1 HB.out _).size (fun q hq => (HRow5.out.lt q hq).1)
              clear hown5 hgrow5 hat5 hlt5 HRow5
              have HO6 : Hid (Things W0.heap.size w5 (.slice (some ⟨g5, 0, none⟩) ((M3 k j).length + 1) cap5) (M3 k (j + 1))) := by rw [E3.out, HN.out]; exact HO5.out
              clear HO5 z0 z1 z2
              go_wp2
              go_roundw
              case rel => exact ⟨j + 1, by omega, by go_num, HO6, HB5⟩
              case measure => simp [intOf]; omega
            · have f3 : decide ((j : Int) < (ni : Int)) = false := decide_eq_false (by omega)
              obtain rfl : j = ni := by omega
              rw [← E40.out] at HO
              clear HO4 HB4 hlen
              go_wp2_with fail
              clear z0 z1 z2
              go_loopw [3, 7] (fun v i wr => ∃ q : Nat, q ≤ nb ∧ i = .int .i64 (q : Int) ∧ Hid (Things W0.heap.size wr v (M4 k q)) ∧ Hid (Below W0.heap.size W0 wr)) (fun _ i _ => nb - (intOf i).toNat)
              case atStart => exact ⟨0, Nat.zero_le _, rfl, HO, HB⟩
              case round =>
                obtain ⟨q, hq, rfl, HO, HB⟩ := hrel
                obtain ⟨z0, z1, z2⟩ := HK.out wr HB.out
                have hlen := HL4.out k q (by omega) (by omega)
                by_cases hqn : q < nb
                · have f4 : decide ((q : Int) < (nb : Int)) = true := decide_eq_true (by omega)
                  have hp0 : k * nb ≤ 4 * 64 := Nat.mul_le_mul (by omega) (by omega)
                  obtain ⟨p, hp⟩ : ∃ p, k * nb = p := ⟨_, rfl⟩
                  obtain ⟨r, hr⟩ : ∃ r, p + q = r := ⟨_, rfl⟩
                  have hpi : (k : Int) * (nb : Int) = (p : Int) := by rw [← hp]; exact (Int.natCast_mul _ _).symm
                  rw [hp] at hp0
                  have m1 : IntKind.i64.wrap ((k : Int) * (nb : Int)) = (p : Int) := by rw [hpi]; exact IntWalk.i64_in _ (by omega)
                  have m2 : IntKind.i64.wrap ((p : Int) + (q : Int)) = (r : Int) := by rw [IntWalk.i64_in _ (by omega)]; omega
                  have HN : Hid ((k : Int) * (nb : Int) + (q : Int) = (r : Int)) := by show _ = _; rw [hpi]; omega
                  clear hp hr hpi
                  obtain ⟨ia6, ib6, ic6, id6, ie6⟩ := info_parts infoThing
                  have hrow6 := HO.out
                  unfold OwnR at hrow6
                  have HRow6 := Lib.hid hrow6
                  clear hrow6
                  have HIb6 := Lib.hid ib6
                  have HIc6 := Lib.hid ic6
                  have HId6 := Lib.hid id6
                  have HIe6 := Lib.hid ie6
                  clear ib6 ic6 id6 ie6
                  go_wp2_with (at_builtin; refine wpList_append_lies _ rfl _ _ _ rfl W0.heap.size 94 ia6 _ 4 32 Tryz.underlying90 HIb6.out HIc6.out HId6.out HIe6.out rfl (by decide) _ _ _ rfl (HRow6.out.alloc _) ⟨wr.heap.size, 0, none⟩ 1 1 [.int .i64 6, .int .i64 (r : Int), .int .i64 (k : Int), .int .i64 (q : Int)] rfl rfl (World.news_of_block (cs := #[.int .i64 6, .int .i64 (r : Int), .int .i64 (k : Int), .int .i64 (q : Int)]) (t := 94) (fr := (0, 0)) (heapNew wr _)) (by simp [Value.oneCell']) (by omega) ?c1 ?c2 ?c3 (wr.heap.size + 1) (by simp) ?_)
                  case c1 => unfold maxLen; omega
                  case c2 => omega
                  case c3 => have := HB.out.size; first | (simp; done) | (simp; omega)
                  intro g6 cap6 w6 hown6 hgrow6 hat6 hlt6
                  have HO6 := Lib.hid (OwnR.snoc (f := thC) (x := ⟨6,(r:Int),(k:Int),(q:Int)⟩) hown6 rfl rfl)
                  have HB6 : Hid (Below W0.heap.size _ w6) := Below.grown (bl1 HB.out _) hgrow6 (bl1 HB.out _).size (fun q hq => (HRow6.out.lt q hq).1)
                  clear hown6 hgrow6 hat6 hlt6 HRow6
                  have HO7 : Hid (Things W0.heap.size w6 (.slice (some ⟨g6, 0, none⟩) ((M4 k q).length + 1) cap6) (M4 k (q + 1))) := by rw [E4.out, HN.out]; exact HO6.out
                  clear HO6 z0 z1 z2
                  go_wp2
                  go_roundw
                  case rel => exact ⟨q + 1, by omega, by go_num, HO7, HB6⟩
                  case measure => simp [intOf]; omega
                · have f4 : decide ((q : Int) < (nb : Int)) = false := decide_eq_false (by omega)
                  obtain rfl : q = nb := by omega
                  rw [← E2.out] at HO
                  clear hlen
                  go_wp2
                  go_roundw
                  case rel => exact ⟨k + 1, by omega, by go_num, HO, HB⟩
                  case measure => simp [intOf]; omega
        · have f2 : decide ((k : Int) < (ng : Int)) = false := decide_eq_false (by omega)
          obtain rfl : k = ng := by omega
          obtain ⟨ad, cap, rfl⟩ := OwnR.form HO.out
          have HF := Lib.hid (HFIN.out _ _ (OwnR.mono HO.out HB0.out.size) (blN HB0.out HB.out))
          go_wp2
          first | exact HF.out | (go_ret; exact HF.out) | (go_ret2; exact HF.out)
end
end Go.Proofs.YtgofmnhfajmbfaaGreatDoor
