/-
  Walks of the reference's layer 1: wide, within, Num, Get, Text.
-/
import Derived.Test.YtgofmnhfajmbfaaGreatDoorSidA
import Derived.Test.YtgofmnhfajmbfaaGreatDoorGeomA
import Derived.Test.YtgofmnhfajmbfaaGreatDoorMapsB
import Derived.Lib.BufferRead
import Derived.Test.YtgofmnhfajmbfaaGreatDoorSpA
namespace Go.Proofs.YtgofmnhfajmbfaaGreatDoor
open Go Go.RowKit Txt Sp

def byC (b : UInt8) : List Value := [.int .u8 (b.toNat : Int)]
def Bytes (base : Nat) (w : World) (v : Value) (l : List UInt8) : Prop := OwnR 5 1 byC base w v l
theorem byC_flat (l : List UInt8) : l.flatMap byC = l.map (fun b => Value.int .u8 (b.toNat : Int)) := by
  induction l with
  | nil => rfl
  | cons a r ih => rw [List.flatMap_cons, ih]; rfl
theorem bytes_of {base : Nat} {w : World} {v : Value} {l : List UInt8} (h : Bytes base w v l) : (convert 47 9 v).run Tryz.prog w = .ok (.string (ofL l)) w := by
  obtain ⟨h1, ⟨rfl, h0⟩ | ⟨g, cap, cur, rfl, hg, hh, h2, h3, h4, h5⟩⟩ := h
  · obtain rfl : l = [] := List.length_eq_zero_iff.1 h0
    exact Lib.run_convert_nil_bytes w _ _ _ 0 Tryz.underlying47 Tryz.underlying5 Tryz.underlying9
  · refine bytes_text (l := l) Tryz.underlying47 Tryz.underlying5 Tryz.underlying9 hh (fun j hj => ?_) cap
    rw [byC_flat, Nat.mul_one] at h5
    have h6 : (cur.toList.take l.length)[j]? = some (.int .u8 (l[j].toNat : Int)) := by
      rw [h5, List.getElem?_map, List.getElem?_eq_getElem hj]
      rfl
    rw [List.getElem?_take_of_lt hj] at h6
    rw [← Array.getElem?_toList]
    exact h6
theorem numL_take {s : ByteArray} {k b : Nat} (h : k < s.size) (hb : 0 < b) : numL ((s.data.toList.drop k).take b) = s[k].toNat + 256 * numL ((s.data.toList.drop (k + 1)).take (b - 1)) := by
  obtain ⟨b, rfl⟩ : ∃ c, b = c + 1 := ⟨b - 1, by omega⟩
  rw [drop_get h, List.take_succ_cons, Nat.add_sub_cancel]
  rfl
theorem numL_bd (l : List UInt8) (k : Nat) : numL (l.take k) < 256 ^ k := by
  have h := Sp.numL_lt (l.take k)
  have hl : (l.take k).length ≤ k := List.length_take_le _ _
  exact Nat.lt_of_lt_of_le h (Nat.pow_le_pow_right (by decide) hl)
section
set_option maxHeartbeats 2000000
theorem textL_snoc : ∀ (k n : Nat), textL (k + 1) n = textL k n ++ [UInt8.ofNat (n / 256 ^ k % 256)]
  | 0, n => by simp [textL]
  | k + 1, n => by
    show UInt8.ofNat (n % 256) :: textL (k + 1) (n / 256) = UInt8.ofNat (n % 256) :: textL k (n / 256) ++ [_]
    rw [textL_snoc k (n / 256), Nat.div_div_eq_div_mul, Nat.pow_succ, Nat.mul_comm (256 ^ k) 256, List.cons_append]
set_option maxRecDepth 20000 in
theorem rtext_any (w : World) (n b : Nat) (hb : b ≤ 4) : Calls Tryz.prog 124 #[.int .i64 (n : Int), .int .i64 (b : Int)] w fun e w' => e = .returned (.string (ofL (textL b n))) ∧ Below w.heap.size w w' := by
  have HO0 : Hid (Bytes w.heap.size w (.slice none 0 0) (textL 0 n)) := OwnR.void _ _
  have HB0 : Hid (Below w.heap.size w w) := Below.refl _ _
  go_enter Tryz.func124, Tryz.ntmps124
  go_wp2
  go_loopw [5, 6] (fun v i wr => ∃ j : Nat, j ≤ b ∧ i = .int .i64 (j : Int) ∧ Hid (Bytes w.heap.size wr v (textL j n)) ∧ Hid (Below w.heap.size w wr)) (fun _ i _ => b - (intOf i).toNat)
  case atStart => exact ⟨0, Nat.zero_le _, rfl, HO0, HB0⟩
  case round =>
    obtain ⟨j, hj, rfl, HO, HB⟩ := hrel
    by_cases hlt : j < b
    · have f1 : decide ((j : Int) < (b : Int)) = true := decide_eq_true (by omega)
      obtain ⟨p, hp⟩ : ∃ p, 8 * j = p := ⟨_, rfl⟩
      have e1 : IntKind.i64.wrap (8 * (j : Int)) = (p : Int) := by rw [IntWalk.i64_in _ (by omega)]; omega
      have p0 : (0 : Int) ≤ (p : Int) := by omega
      have p1 : (p : Int) ≤ 64 := by omega
      have hpow : (2 : Nat) ^ p = 256 ^ j := by rw [← hp, Nat.pow_mul]
      obtain ⟨q, hq⟩ : ∃ q : Nat, n / 256 ^ j = q := ⟨_, rfl⟩
      have e2 : (n : Int) / 2 ^ p = (q : Int) := by
        have : ((2 : Int) ^ p) = ((2 ^ p : Nat) : Int) := by simp
        rw [this, hpow, ← hq]
        rfl
      have hsn := textL_snoc j n
      rw [hq] at hsn
      have hc : byC (UInt8.ofNat (q % 256)) = [.int .u8 ((q : Int) % 256)] := by
        unfold byC
        have : ((UInt8.ofNat (q % 256)).toNat : Int) = (q : Int) % 256 := by rw [UInt8.toNat_ofNat']; omega
        rw [this]
      have hlen : (textL j n).length ≤ 4 := by rw [textL_length]; omega
      obtain ⟨y, hy⟩ : ∃ y, UInt8.ofNat (q % 256) = y := ⟨_, rfl⟩
      rw [hy] at hsn hc
      have HSN := Lib.hid hsn
      have HC := Lib.hid hc
      clear hsn hc hp hpow hq hy
      obtain ⟨ia4, ib4, ic4, id4, ie4⟩ := info_parts infoU8
      have hrow4 := HO.out
      unfold OwnR at hrow4
      have HRow4 := Lib.hid hrow4
      clear hrow4
      have HIb4 := Lib.hid ib4
      have HIc4 := Lib.hid ic4
      have HId4 := Lib.hid id4
      have HIe4 := Lib.hid ie4
      clear ib4 ic4 id4 ie4
      go_wp2_with (at_builtin; refine wpList_append_lies _ rfl _ _ _ rfl w.heap.size 5 ia4 _ 1 1 Tryz.underlying47 HIb4.out HIc4.out HId4.out HIe4.out rfl (by decide) _ _ _ rfl (HRow4.out.alloc _) ⟨wr.heap.size, 0, none⟩ 1 1 [.int .u8 ((q : Int) % 256)] rfl rfl (World.news_of_block (cs := #[.int .u8 ((q : Int) % 256)]) (t := 5) (fr := (0, 0)) (heapNew wr _)) (by simp [Value.oneCell']) (by omega) ?c1 ?c2 ?c3 (wr.heap.size + 1) (by simp) ?_)
      case c1 => unfold maxLen; omega
      case c2 => omega
      case c3 => have := HB.out.size; first | (simp; done) | (simp; omega)
      intro g4 cap4 w4 hown4 hgrow4 hat4 hlt4
      have HO4 := Lib.hid (OwnR.snoc (f := byC) (x := y) hown4 HC.out rfl)
      have HB4 : Hid (Below w.heap.size _ w4) := Below.grown (bl1 HB.out _) hgrow4 (bl1 HB.out _).size (fun q hq => (HRow4.out.lt q hq).1)
      clear hown4 hgrow4 hat4 hlt4 HRow4
      have HO5 : Hid (Bytes w.heap.size w4 (.slice (some ⟨g4, 0, none⟩) ((textL j n).length + 1) cap4) (textL (j + 1) n)) := by rw [HSN.out]; exact HO4.out
      clear HO4
      go_wp2
      go_roundw
      case rel => exact ⟨j + 1, by omega, by go_num, HO5, HB4⟩
      case measure => simp [intOf]; omega
    · have f1 : decide ((j : Int) < (b : Int)) = false := decide_eq_false (by omega)
      obtain rfl : j = b := by omega
      have hcv := bytes_of HO.out
      go_wp2
      go_ret
      exact ⟨rfl, HB.out⟩
end
end Go.Proofs.YtgofmnhfajmbfaaGreatDoor
namespace Go.Proofs.YtgofmnhfajmbfaaGreatDoor
open Go Go.RowKit Txt Sp

section
set_option maxHeartbeats 8000000
set_option maxRecDepth 20000 in
theorem rgcheck_any (w : World) (g : Sp.Geom) : Calls Tryz.prog 44 #[gV g] w fun e w' => e = .returned (.int .i64 g.check) ∧ Below w.heap.size w w' := by
  obtain ⟨a, b, c⟩ := g
  by_cases hg : (⟨a, b, c⟩ : Sp.Geom).ok
  · rw [Geom.check_ok hg]
    have HG : Hid (1 ≤ a ∧ a ≤ 4 ∧ 1 ≤ b ∧ b ≤ 32 ∧ 1 ≤ c ∧ c ≤ 64) := hg
    clear hg
    unfold gV
    go_enter Tryz.func44, Tryz.ntmps44
    go_wp2
    all_goals first | (go_ret; exact ⟨rfl, bl2 _⟩) | (exfalso; have := HG.out; omega)
  · rw [Geom.check_no hg]
    have HG : Hid (¬ (1 ≤ a ∧ a ≤ 4 ∧ 1 ≤ b ∧ b ≤ 32 ∧ 1 ≤ c ∧ c ≤ 64)) := hg
    clear hg
    unfold gV
    go_enter Tryz.func44, Tryz.ntmps44
    go_wp2
    all_goals first | (go_ret; exact ⟨rfl, bl2 _⟩) | (exfalso; have := HG.out; omega)
set_option maxRecDepth 20000 in
theorem rgregions_any (w : World) (g : Sp.Geom) : Calls Tryz.prog 47 #[gV g] w fun e w' => e = .returned (.int .i64 g.regions) ∧ Below w.heap.size w w' := by
  have hch := fun W : World => rgcheck_any W g
  by_cases hg : g.ok
  · rw [Geom.check_ok hg] at hch
    rw [Geom.regions_ok hg]
    have hp := Geom.prod hg
    have hg2 : 1 ≤ g.groups ∧ g.groups ≤ 4 := ⟨hg.1, hg.2.1⟩
    obtain ⟨ga, gb, gc⟩ := g
    unfold gV at hch ⊢
    simp only at hp hg2 ⊢
    obtain ⟨p, hpp⟩ : ∃ p, ga * gb = p := ⟨_, rfl⟩
    have e1 : IntKind.i64.wrap (ga * gb) = p := by rw [IntWalk.i64_in _ (by omega)]; exact hpp
    rw [hpp] at hp ⊢
    have e2 : IntKind.i64.wrap (ga + p) = ga + p := IntWalk.i64_in _ (by omega)
    clear hg hpp
    have HCH := Lib.hid hch
    clear hch
    obtain ⟨W0, hW0⟩ : ∃ W, w.alloc (.cells #[.int .i64 ga, .int .i64 gb, .int .i64 gc] 23) = W := ⟨_, rfl⟩
    have hk := g_keep hW0
    have HB0 := Lib.hid hk.1
    have HK := Lib.hid hk.2
    clear hk
    obtain ⟨z0, z1, z2⟩ := HK.out W0 (Below.refl _ _)
    go_enter Tryz.func47, Tryz.ntmps47
    go_wp2_with fail
    refine (HCH.out _).mono ?_
    rintro e w1 ⟨rfl, hb1⟩
    have HB1 := Lib.hid (blN (Below.refl _ _) hb1)
    clear hb1
    clear z0 z1 z2
    obtain ⟨z0, z1, z2⟩ := HK.out w1 HB1.out
    go_wp2
    go_ret
    exact ⟨rfl, blN HB0.out HB1.out⟩
  · rw [Geom.check_no hg] at hch
    have hr : g.regions = 0 := if_neg hg
    rw [hr]
    obtain ⟨ga, gb, gc⟩ := g
    unfold gV at hch ⊢
    clear hg hr
    have HCH := Lib.hid hch
    clear hch
    obtain ⟨W0, hW0⟩ : ∃ W, w.alloc (.cells #[.int .i64 ga, .int .i64 gb, .int .i64 gc] 23) = W := ⟨_, rfl⟩
    have hk := g_keep hW0
    have HB0 := Lib.hid hk.1
    have HK := Lib.hid hk.2
    clear hk
    obtain ⟨z0, z1, z2⟩ := HK.out W0 (Below.refl _ _)
    go_enter Tryz.func47, Tryz.ntmps47
    go_wp2_with fail
    refine (HCH.out _).mono ?_
    rintro e w1 ⟨rfl, hb1⟩
    have HB1 := Lib.hid (blN (Below.refl _ _) hb1)
    clear hb1
    clear z0 z1 z2
    go_wp2
    go_ret
    exact ⟨rfl, blN HB0.out HB1.out⟩
end
end Go.Proofs.YtgofmnhfajmbfaaGreatDoor
namespace Go.Proofs.YtgofmnhfajmbfaaGreatDoor
open Go Go.RowKit Txt Sp

def stC (s : ByteArray) : List Value := [.string s]
def RTexts (base : Nat) (w : World) (v : Value) (l : List ByteArray) : Prop := OwnR 9 1 stC base w v l
theorem stC_flat (l : List ByteArray) : l.flatMap stC = l.map Value.string := by
  induction l with
  | nil => rfl
  | cons a r ih => rw [List.flatMap_cons, ih]; rfl
theorem RTexts.own {base : Nat} {w : World} {v : Value} {l : List ByteArray} (h : RTexts base w v l) : OwnTexts base w v l := ⟨_, by rw [← stC_flat]; exact h⟩
theorem leaseB_cons {o q : Nat} (ho : o < 256) : leaseB ((o : Int), (q : Int)) = UInt8.ofNat o :: textL 3 q := by
  unfold leaseB
  have e : ((o : Int) + 256 * (q : Int)).toNat = o + 256 * q := by omega
  simp only [e]
  show UInt8.ofNat ((o + 256 * q) % 256) :: textL 3 ((o + 256 * q) / 256) = _
  rw [show (o + 256 * q) % 256 = o by omega, show (o + 256 * q) / 256 = q by omega]
theorem tabB_one (l : List (Int × Int)) (n : Nat) : tabB (n + 1) l = tabB n l ++ [ofL (secB ((l.drop (16 * n)).take 16))] := by
  unfold tabB
  rw [List.range_succ, List.map_append, List.map_cons, List.map_nil]
section
set_option maxHeartbeats 8000000
set_option maxRecDepth 20000 in
theorem rttext_any (w : World) (a b : Int) (h : leaseOk (a, b)) : Calls Tryz.prog 122 #[.agg #[.int .i64 a, .int .i64 b]] w fun e w' => e = .returned (.string (ofL (leaseB (a, b)))) ∧ Below w.heap.size w w' := by
  obtain ⟨h1, h2, h3, h4⟩ := h
  simp only at h1 h2 h3 h4
  obtain ⟨o, rfl⟩ : ∃ n : Nat, a = (n : Int) := ⟨a.toNat, by omega⟩
  obtain ⟨q, rfl⟩ : ∃ n : Nat, b = (n : Int) := ⟨b.toNat, by omega⟩
  have ht := fun W : World => rtext_any W q 3 (by decide)
  have hlc := leaseB_cons (o := o) (q := q) (by omega)
  rw [hlc]
  have hcat := text_cat [UInt8.ofNat o] (textL 3 q)
  have s1 : (ofL (textL 3 q)).size = 3 := by rw [ofL_size, textL_length]
  obtain ⟨A, hA⟩ : ∃ T, ofL [UInt8.ofNat o] = T := ⟨_, rfl⟩
  obtain ⟨B, hB⟩ : ∃ T, ofL (textL 3 q) = T := ⟨_, rfl⟩
  obtain ⟨C, hC⟩ : ∃ T, ofL (UInt8.ofNat o :: textL 3 q) = T := ⟨_, rfl⟩
  change ofL [UInt8.ofNat o] ++ ofL (textL 3 q) = ofL (UInt8.ofNat o :: textL 3 q) at hcat
  have sA : A.size = 1 := by rw [← hA, ofL_size]; rfl
  rw [hA, hB, hC] at hcat
  rw [hB] at ht s1
  rw [hC]
  have hl : ¬ 9223372036854775807 < A.size + B.size := by omega
  have m1 : IntKind.u8.wrap (o : Int) = (o : Int) := IntWalk.u8_in _ (by omega)
  have hcvb : ∀ W b, W.heap[b]? = some (.cells #[.int .u8 (o : Int)] 5 (0, 0)) → (convert 47 9 (.slice (some ⟨b, 0, none⟩) 1 1)).run Tryz.prog W = .ok (.string A) W := fun W b hb => by
    rw [← hA]
    exact bytes_text (l := [UInt8.ofNat o]) (src := 47) (dst := 9) Tryz.underlying47 Tryz.underlying5 Tryz.underlying9 hb (fun j hj => by
      match j, hj with
      | 0, _ =>
        show some (Value.int .u8 (o : Int)) = some (.int .u8 ((UInt8.ofNat o).toNat : Int))
        rw [UInt8.toNat_ofNat', Nat.mod_eq_of_lt (by omega)]) 1
  have HCB := Lib.hid hcvb
  have HCV : Hid (∀ W : World, (convert 47 9 (.slice (some ⟨W.heap.size, 0, none⟩) 1 1)).run Tryz.prog (W.alloc (.cells #[.int .u8 (o : Int)] 5)) = .ok (.string A) (W.alloc (.cells #[.int .u8 (o : Int)] 5))) := fun W => hcvb _ _ (heapNew W _)
  clear hcvb
  obtain ⟨W0, hW0⟩ : ∃ W, w.alloc (.cells #[.int .i64 (o : Int), .int .i64 (q : Int)] 185) = W := ⟨_, rfl⟩
  have hz : W0.heap[w.heap.size]? = some (.cells #[.int .i64 (o : Int), .int .i64 (q : Int)] 185 (0, 0)) := by rw [← hW0]; exact heapNew w _
  have HB0 : Hid (Below w.heap.size w W0) := by rw [← hW0]; exact bl2 _
  have HK : Hid (∀ W, Below W0.heap.size W0 W → W.cell? ⟨w.heap.size, 0, none⟩ = some (.int .i64 (o : Int)) ∧ W.cell? ⟨w.heap.size, 1, none⟩ = some (.int .i64 (q : Int))) := fun W hW => ⟨cellOf (heapOld hW hz) rfl, cellOf (heapOld hW hz) rfl⟩
  have HT := Lib.hid ht
  clear ht
  clear hA hB hC hz hlc s1 sA
  go_enter Tryz.func122, Tryz.ntmps122
  go_wp2_with fail
  obtain ⟨ca, cb⟩ := HK.out W0 (Below.refl _ _)
  have hca := fun o => (HK.out (W0.alloc o) (bl2 o)).1
  have hcb := fun o => (HK.out (W0.alloc o) (bl2 o)).2
  have hcw := HCV.out W0
  have hcw2 : (convert 47 9 (.slice (some ⟨W0.heap.size, 0, none⟩) 1 1)).run Tryz.prog (W0.alloc (.cells #[.int .u8 (o : Int)] 5)).drew = .ok (.string A) (W0.alloc (.cells #[.int .u8 (o : Int)] 5)).drew := HCV.out W0.drew
  go_region_law (first
    | (go_simp
       go_at_call 124
       refine (HT.out _).mono ?_
       rintro e w1 ⟨rfl, hb1⟩
       have HB1 : Hid (Below W0.heap.size W0 w1) := blN (by repeat' first | with_reducible exact Below.refl _ _ | with_reducible refine blD ?_ | with_reducible refine bl1 ?_ _) hb1
       obtain ⟨cc, cd⟩ := HK.out w1 HB1.out
       have hce := fun o => (HK.out (w1.alloc o) (bl1 HB1.out o)).1
       have hcf := fun o => (HK.out (w1.alloc o) (bl1 HB1.out o)).2
       have hcx := HCV.out w1
       try have hcy := HCB.out w1 _ (heapOld hb1 (heapNew W0 _))
       clear hb1))
  all_goals
    go_wp2
    first | exact ⟨rfl, blN HB0.out (by repeat' first | with_reducible exact HB1.out | with_reducible refine blD ?_ | with_reducible refine bl1 ?_ _)⟩ | (go_ret; exact ⟨rfl, blN HB0.out (by repeat' first | with_reducible exact HB1.out | with_reducible refine blD ?_ | with_reducible refine bl1 ?_ _)⟩)
end
end Go.Proofs.YtgofmnhfajmbfaaGreatDoor
