/-
  Walks of layer 17's laws: laid (as layer 15's).
-/
import Derived.Test.YtaphcmcimoloiaaGreatDoorAllC
import Derived.Test.YtaphcmcimoloiaaGreatDoorDirAsk
import Derived.Test.YtaphcmcimoloiaaGreatDoorDirNames
import Derived.Test.YtaphcmcimoloiaaGreatDoorDirSet
import Derived.Test.YtaphcmcimoloiaaGreatDoorDirAddOut
import Derived.Test.YtaphcmcimoloiaaGreatDoorBmE
import Derived.Test.YtaphcmcimoloiaaGreatDoorSpDirAsk
namespace Go.Proofs.YtaphcmcimoloiaaGreatDoor
open Go Go.RowKit Txt Sp

section
set_option maxHeartbeats 4000000
set_option maxRecDepth 20000 in
theorem laid17_any (w : World) {g : Sp.Geom} (hg : g.ok) : Calls Tryz.prog 33 #[gV g] w fun e w' =>
    ∃ base B Bd D, e = .returned (.tuple #[pt Bd, pt B]) ∧ SideAt w' base B Bd (freshSide g 0 0) D ∧ Below w.heap.size w w' ∧ ∀ j, D j → w.heap.size ≤ j ∧ j < w'.heap.size := by
  have hsz := fun W : World => gsize_any W g
  have hz := Geom.size_bd hg
  obtain ⟨N, hN⟩ : ∃ N : Nat, g.size = (N : Int) := ⟨g.size.toNat, by omega⟩
  rw [hN] at hsz hz
  have hnew := fun W : World => diskNew_any W N (by omega) (by omega)
  have hlay := fun (W : World) (base Bd : Nat) (D : Nat → Prop) (h : DiskAt W base Bd (newDisk N) D) (hD : ∀ j, D j → j < W.heap.size) => alay_any h hD hg (by rw [hN]; simp [newDisk])
  have hsoft := fun (W : World) (base Bd : Nat) (D : Nat → Prop) (h : DiskAt W base Bd { newDisk N with l := formatL g } D) (hb : base ≤ W.heap.size) (hdl : ∀ j, D j → j < W.heap.size) => softNew_any h hb hdl 0 0 ⟨by decide, by decide⟩ ⟨by decide, by decide⟩
  have heq := eql_disk_nil
  have hfr : (⟨{ newDisk N with l := formatL g }, ⟨[], 0⟩, 0, 0, []⟩ : Sp.Side) = freshSide g 0 0 := rfl
  rw [hfr] at hsoft
  obtain ⟨S, hS⟩ : ∃ S, freshSide g 0 0 = S := ⟨_, rfl⟩
  rw [hS] at hsoft ⊢
  obtain ⟨dN, hdN⟩ : ∃ d, newDisk N = d := ⟨_, rfl⟩
  rw [hdN] at hnew hlay hsoft
  obtain ⟨dF, hdF⟩ : ∃ d : Sp.Disk, { dN with l := formatL g } = d := ⟨_, rfl⟩
  rw [hdF] at hlay hsoft
  obtain ⟨ga, gb, gc⟩ := g
  unfold gV at hsz hlay ⊢
  unfold pt at *
  obtain ⟨W0, hW0⟩ : ∃ W, w.alloc (.cells #[.int .i64 ga, .int .i64 gb, .int .i64 gc] 27) = W := ⟨_, rfl⟩
  have hk := g_keep hW0
  have HB0 := Lib.hid hk.1
  have HK := Lib.hid hk.2
  clear hk
  have HSZ := Lib.hid hsz
  have HNEW := Lib.hid hnew
  have HLAY := Lib.hid hlay
  have HSOFT := Lib.hid hsoft
  clear hsz hnew hlay hsoft
  clear hg hz hN hfr hS hdN hdF
  obtain ⟨z0, z1, z2⟩ := HK.out W0 (Below.refl _ _)
  go_enter Tryz.func33, Tryz.ntmps33
  go_wp2_with fail
  clear z0 z1 z2
  refine (HSZ.out _).mono ?_
  rintro e w1 ⟨rfl, hb1⟩
  have HB1 := Lib.hid hb1
  clear hb1
  go_wp2_with fail
  refine (HNEW.out _).mono ?_
  rintro e w2 ⟨Bd, D, rfl, hd2, hb2, hD2⟩
  have HB2 := Lib.hid (blN HB1.out hb2)
  have HX2 := Lib.hid hb2.size
  have HDA := Lib.hid hd2
  have HDB := Lib.hid hD2
  have hl2 := HLAY.out w2 _ Bd D hd2 (fun j hj => (hD2 j hj).2)
  have HL2 := Lib.hid hl2
  clear hl2
  clear hb2 hd2 hD2
  obtain ⟨z0, z1, z2⟩ := HK.out w2 HB2.out
  go_wp2_with fail
  clear z0 z1 z2
  refine HL2.out.mono ?_
  rintro e w3 ⟨rfl, hd3, K3, hK3, hT3⟩
  have hs2 := HB2.out.size
  have hs0 := HB0.out.size
  have hs1 := HB1.out.size
  have HB3 : Hid (Below w.heap.size w w3) := (blN HB0.out HB2.out).trans (hT3.below (fun j hj => by have := (HDB.out j (hK3 j hj)).1; omega) (by omega))
  have HS3 : Hid (w2.heap.size ≤ w3.heap.size) := hT3.size
  have hs3 := HS3.out
  have hso := HSOFT.out w3 _ Bd D hd3 (by have := HX2.out; omega) (fun j hj => by have := HDB.out j hj; omega)
  have HSO := Lib.hid hso
  clear hso
  clear hd3 hK3 hT3 hs2 hs0 hs1 hs3
  go_wp2_with fail
  refine HSO.out.mono ?_
  rintro e w4 ⟨B, D', rfl, hsa, hb4, hD4⟩
  have HF : Hid (∃ base B' Bd' D, Ending.returned (.tuple #[.pointer (some ⟨Bd, 0, none⟩), .pointer (some ⟨B, 0, none⟩)]) = Ending.returned (.tuple #[.pointer (some ⟨Bd', 0, none⟩), .pointer (some ⟨B', 0, none⟩)]) ∧ SideAt w4 base B' Bd' S D ∧ Below w.heap.size w w4 ∧ ∀ j, D j → w.heap.size ≤ j ∧ j < w4.heap.size) := by
    have h3 := HB3.out.size
    have h4 := hb4.size
    have h0 := HB0.out.size
    have h1 := HB1.out.size
    have h23 := HS3.out
    refine ⟨_, B, Bd, D', rfl, hsa, blN HB3.out hb4, fun j hj => ?_⟩
    rcases hD4 j hj with h | h
    · have := HDB.out j h
      omega
    · omega
  clear hsa hb4 hD4
  go_wp2
  go_ret2
  exact HF.out
end
end Go.Proofs.YtaphcmcimoloiaaGreatDoor
namespace Go.Proofs.YtaphcmcimoloiaaGreatDoor
open Go Go.RowKit Txt Sp

section
variable {g : Sp.Geom} {i : Int} {S : Sp.Side} {F : File} {X Y : List Int} {r q : Nat} {w : World} {base B Bd : Nat} {D : Nat → Prop}
theorem Sp.Dir.stands (h : Dir g i S F X Y r q) (hg : g.ok) (h1 : 1 ≤ i) (h2 : i ≤ g.groups * g.inodes) : Stands S g i F := by
  have hblk : ∀ b, b = F.more ∨ b ∈ F.blocks → blockOk g b := fun b hb => by
    by_cases h0 : b = 0
    · exact Or.inl h0
    · obtain ⟨k, p, hkk, hpp, e⟩ := h.bm.held.blk (h.bm.own b (mem_all.2 ⟨hb, h0⟩))
      rw [e]
      exact block_ok hg hkk hpp
  have hz := h.size
  have hq := h.q40
  exact ⟨hg, h.bm.held.ok, h1, h2, h.bm.inode_in hg h1 h2, h.bm.file, ⟨h.gen.1, h.gen.2, h.links.1, h.links.2, (by show 0 ≤ F.size; omega), (by show F.size ≤ 2560; omega), Or.inr (Or.inr ⟨h.kind, (by show F.size % 64 = 0; omega), h.par.1, h.par.2, fun b hb => hblk b (Or.inr (List.mem_of_mem_take hb)), hblk _ (Or.inl rfl)⟩)⟩, fun hm => h.bm.hasB hg (h.bm.own _ (mem_all.2 ⟨Or.inl rfl, hm⟩)), fun b hb => hblk b (Or.inr hb)⟩
theorem find_law (hs : SideAt w base B Bd S D) (h : Dir g i S F X Y r q) (hg : g.ok) (h1 : 1 ≤ i) (h2 : i ≤ g.groups * g.inodes) (hm : MaxOk w) (n : ByteArray) (hn : n.size ≤ maxLen) :
    Calls Tryz.prog 38 #[pt B, gV g, .int .i64 i, .string n] w fun e w' => ∃ c p, e = .returned (.tuple #[p, .int .i64 c]) ∧ Below w.heap.size w w' ∧ ((c = 0 ∧ n ∈ (pairsE (ents S.read F)).map Prod.fst) ∨ (c ≠ 0 ∧ n ∉ (pairsE (ents S.read F)).map Prod.fst)) ∧ p = placeV (findR (ents S.read F) n) := by
  refine (dirFind_any hs (h.stands hg h1 h2) h.ok (h.blkPos hg) (h.hasB hg) hm n (by unfold maxLen at hn; omega)).mono ?_
  rintro e w' ⟨rfl, hb⟩
  refine ⟨_, _, rfl, hb, ?_, rfl⟩
  unfold findC
  by_cases hnb : nameB n = true
  · rw [if_pos hnb]
    rcases h.find hnb with ⟨x, hf, _, _, _, hp⟩ | ⟨hf, hno⟩
    · rw [hf]
      exact Or.inl ⟨rfl, List.mem_map.2 ⟨_, hp, rfl⟩⟩
    · rw [hf]
      exact Or.inr ⟨by decide, hno⟩
  · rw [if_neg hnb]
    exact Or.inr ⟨by decide, fun hm => hnb (h.nameB_of hm)⟩
theorem remove_law (hs : SideAt w base B Bd S D) (h : Dir g i S F X Y r q) (hg : g.ok) (h1 : 1 ≤ i) (h2 : i ≤ g.groups * g.inodes) (hr : r < 1024) (hm : MaxOk w) (n : ByteArray) (hn : n.size ≤ maxLen) :
    Calls Tryz.prog 35 #[pt B, gV g, .int .i64 i, .string n, .slice none 0 0] w fun e w' => ∃ a c, e = .returned (.tuple #[.int .i64 a, .int .i64 c]) ∧ ∃ S' F' r', SideTo w base B Bd S' D w' ∧ Dir g i S' F' X Y r' q ∧ r' ≤ r + 1 ∧
      ((c = 0 ∧ ∃ j, (pairsE (ents S.read F)).Perm ((n, j) :: pairsE (ents S'.read F'))) ∨ (c = (if nameB n = true then 100 else 90) ∧ n ∉ (pairsE (ents S.read F)).map Prod.fst ∧ pairsE (ents S'.read F') = pairsE (ents S.read F))) := by
  have hl := h.bm.held.last
  refine (dirRemove_any hs (h.stands hg h1 h2) h.ok (h.blkPos hg) (h.hasB hg) hm n (by unfold maxLen at hn; omega) (by omega) (.slice none 0 0) [] (show Ints w (.slice none 0 0) [] from RowAt.void w 1) (by simp)).mono ?_
  rintro e w' (⟨hc, rfl, hb⟩ | ⟨x, hc, hf, rfl, ht⟩)
  · refine ⟨_, _, rfl, S, F, r, SideTo.none hs hb, h, by omega, Or.inr ?_⟩
    unfold findC at hc ⊢
    by_cases hnb : nameB n = true
    · rw [if_pos hnb] at hc ⊢
      rcases h.find hnb with ⟨x, hf, _, _, _, hp⟩ | ⟨hf, hno⟩
      · rw [hf] at hc
        exact absurd rfl hc
      · rw [hf, if_pos hnb]
        exact ⟨rfl, hno, rfl⟩
    · rw [if_neg hnb, if_neg hnb]
      exact ⟨rfl, fun hm => hnb (h.nameB_of hm), rfl⟩
  · have hnb : nameB n = true := by
      unfold findC at hc
      split at hc
      · assumption
      · cases hc
    have hff : findE (ents S.read F) n = some x := by
      unfold findR at hf
      rw [if_pos hnb] at hf
      exact hf
    obtain ⟨hx, hxn⟩ := found_of hff
    have hx1 := h.live hx (by rw [hxn]; exact hnb)
    obtain ⟨hcc, hd, l1, l2, e1, e2⟩ := h.put hg hr hx (x := ⟨0, ⟨#[]⟩⟩) (Or.inl ⟨rfl, rfl⟩) (fun _ _ _ _ => rfl) (ahead := []) (by simp)
    refine ⟨_, _, rfl, _, F, r + 1, ht, hd, by omega, Or.inl ⟨hcc, x.inode, ?_⟩⟩
    rw [e2, e1, pairs_append, pairs_append, pairs_cons_live hx1, pairs_cons_free (e := ⟨0, x.sec, x.slot, ⟨#[]⟩⟩) rfl, hxn]
    exact List.perm_middle
def AddLaw (w : World) (base B Bd : Nat) (g : Sp.Geom) (i : Int) (S : Sp.Side) (F : File) (X Y : List Int) (r q : Nat) (D : Nat → Prop) (x : Sp.Entry) (e : Ending) (w' : World) : Prop :=
  ∃ v c, e = .returned (.tuple #[v, .int .i64 c]) ∧ ∃ S' F' Y' r' q', SideTo w base B Bd S' D w' ∧ Dir g i S' F' X Y' r' q' ∧ r' ≤ r + 5 ∧
    ((c = 70 ∧ ¬ (x.may ∧ x.inode ≠ 0) ∧ pairsE (ents S'.read F') = pairsE (ents S.read F) ∧ q' = q ∧ Y' = Y) ∨
     (c = 101 ∧ x.may ∧ x.inode ≠ 0 ∧ x.name ∈ (pairsE (ents S.read F)).map Prod.fst ∧ pairsE (ents S'.read F') = pairsE (ents S.read F) ∧ q' = q ∧ Y' = Y) ∨
     (c = 0 ∧ x.may ∧ x.inode ≠ 0 ∧ x.name ∉ (pairsE (ents S.read F)).map Prod.fst ∧ (pairsE (ents S'.read F')).Perm ((x.name, x.inode) :: pairsE (ents S.read F)) ∧ ∃ L, OwnR 3 1 intC w.heap.size w' v L ∧
       ((q' = q ∧ Y' = Y ∧ L.length = 1 ∧ (pairsE (ents S.read F)).length < 4 * q) ∨ (q' = q + 1 ∧ Y'.length = Y.length + 1 ∧ L.length = 5 ∧ (pairsE (ents S.read F)).length = 4 * q ∧ ∀ y ∈ ents S'.read F', y.name = x.name → y.slot = 0))))
theorem may_live {x : Sp.Entry} (h : x.may) (h0 : x.inode ≠ 0) : 1 ≤ x.inode ∧ nameB x.name = true := by
  rcases h with ⟨h1, _⟩ | ⟨h1, _, h3⟩
  · exact absurd h1 h0
  · exact ⟨h1, h3⟩
theorem add_law (hs : SideAt w base B Bd S D) (hD : ∀ j, D j → j < w.heap.size) (h : Dir g i S F X Y r q) (hg : g.ok) (h1 : 1 ≤ i) (h2 : i ≤ g.groups * g.inodes) (hr : r + 6 < 1024) (hm : MaxOk w) (hmt : ∀ W', Turn D w W' → MaxOk W') (x : Sp.Entry) (hxs : x.name.size ≤ maxLen)
    (vk : Value) (ks : List Int) (hv : ∀ W, Turn D w W → Ints W vk ks) (hks : ∀ k ∈ ks, 0 ≤ k ∧ k < g.groups) (hnd : ks.Nodup) (hroom : (pairsE (ents S.read F)).length = 4 * q → q < 8 ∧ Y.length < ks.length * g.blocks.toNat) :
    Calls Tryz.prog 36 #[pt B, gV g, .int .i64 i, eV x, vk, .slice none 0 0] w (AddLaw w base B Bd g i S F X Y r q D x) := by
  have hl := h.bm.held.last
  have hst := h.stands hg h1 h2
  by_cases hno : x.may ∧ x.inode ≠ 0 → (findE (ents S.read F) x.name).isSome = true
  · refine (dirAddNo_any hs hst h.ok (h.blkPos hg) (h.hasB hg) hm x hxs vk (.slice none 0 0) hno).mono ?_
    rintro e w' (⟨hn, rfl, hb⟩ | ⟨hx, hx0, hf, rfl, hb⟩)
    · exact ⟨_, _, rfl, S, F, Y, r, q, SideTo.none hs hb, h, by omega, Or.inl ⟨rfl, hn, rfl, rfl, rfl⟩⟩
    · refine ⟨_, _, rfl, S, F, Y, r, q, SideTo.none hs hb, h, by omega, Or.inr (Or.inl ⟨rfl, hx, hx0, ?_, rfl, rfl, rfl⟩)⟩
      rcases h.find (may_live hx hx0).2 with ⟨y, _, _, _, _, hp⟩ | ⟨hf2, _⟩
      · exact List.mem_map.2 ⟨_, hp, rfl⟩
      · rw [hf2] at hf
        cases hf
  · rw [Classical.not_imp] at hno
    obtain ⟨⟨hx, hx0⟩, hf⟩ := hno
    obtain ⟨hx1, hxn⟩ := may_live hx hx0
    have hf0 : findE (ents S.read F) x.name = none := by
      cases hh : findE (ents S.read F) x.name with
      | none => rfl
      | some y => rw [hh] at hf; exact absurd rfl hf
    have hnin : x.name ∉ (pairsE (ents S.read F)).map Prod.fst := by
      rcases h.find hxn with ⟨y, hf2, _⟩ | ⟨_, hn⟩
      · rw [hf2] at hf0; cases hf0
      · exact hn
    cases hfree : findE (ents S.read F) ⟨#[]⟩ with
    | some p =>
      obtain ⟨hp, hp0, hpn⟩ := h.free hfree
      obtain ⟨hcc, hd, l1, l2, e1, e2⟩ := h.put hg (by omega) hp hx (fun e he _ hen => absurd hen (found_none hf0 e he)) (ahead := []) (by simp)
      refine (dirAddIn_any hs hst h.ok (h.blkPos hg) (h.hasB hg) hm x hxs vk (by omega) hx hx0 hf0 hfree hcc).mono ?_
      rintro e w' ⟨v, rfl, hv, ht⟩
      have hlen := h.length
      refine ⟨_, _, rfl, _, F, Y, r + 1, q, ht, hd, by omega, Or.inr (Or.inr ⟨rfl, hx, hx0, hnin, ?_, _, hv, Or.inl ⟨rfl, rfl, rfl, ?_⟩⟩)⟩
      · rw [e2, e1, pairs_append, pairs_append, pairs_cons_live (e := ⟨x.inode, p.sec, p.slot, x.name⟩) hx1, pairs_cons_free hp0]
        exact List.perm_middle
      · have hle : ∀ l : List Ent, (pairsE l).length ≤ l.length := fun l => by
          unfold pairsE
          rw [List.length_map]
          exact List.length_filter_le _ _
        rw [e1] at hlen ⊢
        rw [pairs_append, pairs_cons_free hp0, List.length_append]
        rw [List.length_append, List.length_cons] at hlen
        have := hle l1
        have := hle l2
        omega
    | none =>
      have hfull := h.noFree hfree
      obtain ⟨hq8, hrm⟩ := hroom hfull
      obtain ⟨hwc, N, t', ht', n0, hF, hb, hmd, hml, himg⟩ := grow8 h hg h1 h2 (by omega) hks hnd hrm hq8
      obtain ⟨hd1, hqN, hNb, hents⟩ := h.grow hg (by omega) n0 ⟨by rw [hF], by rw [hF], by rw [hF], by rw [hF], by rw [hF], by rw [hF]⟩ hb himg
      have hpm : entOf t'.S.read N 0 ∈ ents t'.S.read t'.F := by
        rw [hents]
        exact List.mem_append_right _ (entsB_mem.2 ⟨0, by omega, rfl⟩)
      have hN0 : (entOf t'.S.read N 0).inode = 0 := by unfold entOf; rw [hNb, blank_slot 0 (by omega)]
      have hfno : ∀ e ∈ ents t'.S.read t'.F, ¬ (e.sec = N ∧ e.slot = 0) → e.name = x.name → x.name.size = 0 := fun e he _ hen => by
        rw [hents] at he
        rcases List.mem_append.1 he with he | he
        · exact absurd hen (found_none hf0 e he)
        · obtain ⟨k, hk, rfl⟩ := entsB_mem.1 he
          unfold entOf at hen
          rw [hNb, blank_slot k hk] at hen
          rw [← hen]
          rfl
      obtain ⟨hcc, hd2, l1, l2, e1, e2⟩ := hd1.put hg (by omega) hpm hx hfno (ahead := []) (by simp)
      have hl1 := hb.held.last
      refine (dirAddOut_any hs hst h.ok (h.blkPos hg) (h.hasB hg) hm hmt x hxs hD (by omega) hx hx0 hf0 hfree vk ks hv hks q (by omega) h.size 0 hwc (by omega) rfl t' ht' N ⟨hd1.stands hg h1 h2, hqN⟩ (by omega) (by omega) hcc).mono ?_
      rintro e w' ⟨v, rfl, hv, ht⟩
      refine ⟨_, _, rfl, _, t'.F, Y ++ [N], r + 5, q + 1, ht, hd2, by omega, Or.inr (Or.inr ⟨rfl, hx, hx0, hnin, ?_, _, hv, Or.inr ⟨rfl, by rw [List.length_append]; rfl, by rw [List.length_append, hml]; rfl, hfull, fun y hy hyn => ?_⟩⟩)⟩
      rotate_left
      · by_cases hk : y.sec = N ∧ y.slot = 0
        · exact hk.2
        · have hy2 : y ∈ l1 ++ ⟨x.inode, N, 0, x.name⟩ :: l2 := e2 ▸ hy
          have hy3 : y ∈ ents t'.S.read t'.F := by
            rw [e1]
            rcases List.mem_append.1 hy2 with hh | hh
            · exact List.mem_append_left _ hh
            · rcases List.mem_cons.1 hh with rfl | hh
              · exact absurd ⟨rfl, rfl⟩ hk
              · exact List.mem_append_right _ (List.mem_cons_of_mem _ hh)
          have := hfno y hy3 hk hyn
          have := nameB_size hxn
          omega
      have hp1 : pairsE (ents t'.S.read t'.F) = pairsE (ents S.read F) := by
        have hz : ∀ k, k < 4 → (entOf t'.S.read N k).inode = 0 := fun k hk => by
          unfold entOf
          rw [hNb, blank_slot k hk]
        rw [hents, pairs_append]
        unfold entsB
        rw [pairs_cons_free (hz 0 (by omega)), pairs_cons_free (hz 1 (by omega)), pairs_cons_free (hz 2 (by omega)), pairs_cons_free (hz 3 (by omega))]
        exact List.append_nil _
      rw [← hp1]
      rw [e1, pairs_append, pairs_cons_free hN0, ← pairs_append]
      refine List.Perm.trans (List.Perm.of_eq ?_) (List.perm_middle (a := (x.name, x.inode)) (l₁ := pairsE l1) (l₂ := pairsE l2) |>.trans (List.Perm.of_eq (by rw [pairs_append])))
      exact (congrArg pairsE e2).trans (by rw [pairs_append, pairs_cons_live (e := ⟨x.inode, (entOf t'.S.read N 0).sec, (entOf t'.S.read N 0).slot, x.name⟩) hx1])
end
end Go.Proofs.YtaphcmcimoloiaaGreatDoor
namespace Go.Proofs.YtaphcmcimoloiaaGreatDoor
open Go Go.RowKit Txt Sp

/-- What a law's round finds in memory: since w nothing turned but the box of a geometry and a side. -/
structure DMem (w : World) (base B Bd : Nat) (g : Sp.Geom) (S : Sp.Side) (D : Nat → Prop) (wr : World) : Prop where
  side : SideAt wr base B Bd S D
  lt : ∀ j, D j → j < wr.heap.size
  low : ∀ j, D j → w.heap.size < j
  box : wr.heap[w.heap.size]? = some (.cells #[.int .i64 g.groups, .int .i64 g.inodes, .int .i64 g.blocks] 27 (0, 0))
  bel : Below w.heap.size w wr
section
variable {w wr wr' : World} {g : Sp.Geom} {base B Bd : Nat} {S S' : Sp.Side} {D : Nat → Prop}
theorem DMem.lo (h : DMem w base B Bd g S D wr) : w.heap.size < wr.heap.size := (Array.getElem?_eq_some_iff.1 h.box).1
theorem DMem.below (h : DMem w base B Bd g S D wr) (hb : Below wr.heap.size wr wr') : DMem w base B Bd g S D wr' :=
  ⟨h.side.below hb, fun j hj => Nat.lt_of_lt_of_le (h.lt j hj) hb.size, h.low, heapOld hb h.box, blN h.bel hb⟩
theorem DMem.belowT (h : DMem w base B Bd g S D wr) (hT : Turn D wr wr') : Below w.heap.size w wr' :=
  h.bel.trans (hT.below (fun j hj => Nat.le_of_lt (h.low j hj)) (Nat.le_of_lt h.lo))
theorem DMem.to (h : DMem w base B Bd g S D wr) (hs : SideTo wr base B Bd S' D wr') : DMem w base B Bd g S' (fun j => D j ∨ (wr.heap.size ≤ j ∧ j < wr'.heap.size)) wr' := by
  obtain ⟨hs1, K, hK, hT⟩ := hs
  have hsz := hT.size
  have hlo := h.lo
  refine ⟨hs1, fun j hj => ?_, fun j hj => ?_, hT.heap h.box (fun hk => by have := h.low _ (hK _ hk); omega), h.belowT (hT.mono (fun j _ hj => hK j hj))⟩
  · rcases hj with hj | hj
    · have := h.lt j hj; omega
    · exact hj.2
  · rcases hj with hj | hj
    · exact h.low j hj
    · omega
theorem DMem.max (h : DMem w base B Bd g S D wr) (hm : MaxOk w) : MaxOk wr := hm.below h.bel
theorem DMem.maxT (h : DMem w base B Bd g S D wr) (hm : MaxOk w) : ∀ W', Turn D wr W' → MaxOk W' := fun _ hT => hm.below (h.belowT hT)
end
theorem ints_lone {W : World} {b : Nat} {k : Int} (h : W.heap[b]? = some (.cells #[.int .i64 k] 3 (0, 0))) : Ints W (.slice (some ⟨b, 0, none⟩) 1 1) [k] :=
  ints_block (o := 0) h (fun j n hj => by
    match j, hj with
    | 0, hj => have e : k = n := by simpa using hj
               rw [← e]; rfl
    | q + 1, hj => simp at hj) (by unfold maxLen; simp) rfl
theorem works17_add {w wr : World} {base B Bd : Nat} {D : Nat → Prop} (hM : DMem w base B Bd ⟨1, 4, 4⟩ (freshSide ⟨1, 4, 4⟩ 0 0) D wr) (hm : MaxOk w) (vk : Value) (hv : ∀ W, Turn D wr W → Ints W vk [0]) :
    Calls Tryz.prog 36 #[pt B, gV ⟨1, 4, 4⟩, .int .i64 1, eV ⟨2, ⟨#[102]⟩⟩, vk, .slice none 0 0] wr fun e w' => ∃ v L S' D', e = .returned (.tuple #[v, .int .i64 0]) ∧ OwnR 3 1 intC wr.heap.size w' v L ∧ L.length = 5 ∧ DMem w base B Bd ⟨1, 4, 4⟩ S' D' w' ∧ wr.heap.size ≤ w'.heap.size ∧
      ∀ W, DMem w base B Bd ⟨1, 4, 4⟩ S' D' W → Calls Tryz.prog 38 #[pt B, gV ⟨1, 4, 4⟩, .int .i64 1, .string ⟨#[102]⟩] W fun e w' => ∃ y : Ent, y.inode = 2 ∧ y.slot = 0 ∧ e = .returned (.tuple #[placeV (some y), .int .i64 0]) ∧ Below W.heap.size W w' := by
  have hg : (⟨1, 4, 4⟩ : Sp.Geom).ok := by decide
  have hd := fresh_dir (g := ⟨1, 4, 4⟩) (node := 0) (epoch := 0) hg
  have hp0 : pairsE (ents (freshSide ⟨1, 4, 4⟩ 0 0).read rootF) = [] := rfl
  refine (add_law hM.side hM.lt hd hg (by decide) (by decide) (by decide) (hM.max hm) (hM.maxT hm) ⟨2, ⟨#[102]⟩⟩ (by decide) vk [0] hv (by decide) (by decide) (fun _ => ⟨by decide, by decide⟩)).mono ?_
  rintro e w' ⟨v, c, rfl, S', F', Y', r', q', hs, hd', hr', h⟩
  rcases h with ⟨-, hno, -⟩ | ⟨-, -, -, hin, -⟩ | ⟨rfl, -, -, -, hpm, L, hL, h⟩
  · exact absurd (by decide) hno
  · rw [hp0] at hin
    exact absurd hin (by simp)
  · rw [hp0] at hpm h
    rcases h with ⟨-, -, -, hlt⟩ | ⟨-, -, hL5, -, hsl⟩
    · exact absurd hlt (by decide)
    · refine ⟨v, L, S', _, rfl, hL, hL5, hM.to hs, hs.2.elim (fun K hK => hK.2.size), fun W hW => ?_⟩
      have hnb : nameB ⟨#[102]⟩ = true := by decide
      refine (find_law hW.side hd' hg (by decide) (by decide) (hW.max hm) ⟨#[102]⟩ (by decide)).mono ?_
      rintro e W' ⟨c, p, rfl, hb, hc, rfl⟩
      rcases hd'.find hnb with ⟨y, hf, hy, hyn, _, hyp⟩ | ⟨_, hno⟩
      · have hy2 := hpm.mem_iff.1 hyp
        rw [List.mem_singleton] at hy2
        have hc0 : c = 0 := by
          rcases hc with hc | hc
          · exact hc.1
          · exact absurd (List.mem_map.2 ⟨_, hyp, rfl⟩) hc.2
        refine ⟨y, congrArg Prod.snd hy2, hsl y hy hyn, ?_, hb⟩
        unfold findR
        rw [if_pos hnb, hf, hc0]
      · exact absurd (List.mem_map.2 ⟨_, hpm.mem_iff.2 (List.mem_singleton.2 rfl), rfl⟩) hno
end Go.Proofs.YtaphcmcimoloiaaGreatDoor
namespace Go.Proofs.YtaphcmcimoloiaaGreatDoor
open Go Go.RowKit Txt Sp

section
set_option maxHeartbeats 4000000
set_option maxRecDepth 20000 in
theorem works17_any (w : World) (hm : MaxOk w) : Calls Tryz.prog 34 #[] w fun e w' => e = .returned (.bool true) ∧ Below w.heap.size w w' := by
  have hld := fun W : World => laid17_any W (g := ⟨1, 4, 4⟩) (by decide)
  have hadd := fun (wr : World) (base B Bd : Nat) (D : Nat → Prop) (hM : DMem w base B Bd ⟨1, 4, 4⟩ (freshSide ⟨1, 4, 4⟩ 0 0) D wr) (vk : Value) (hv : ∀ W, Turn D wr W → Ints W vk [0]) => works17_add hM hm vk hv
  obtain ⟨S0, hS0⟩ : ∃ S, freshSide ⟨1, 4, 4⟩ 0 0 = S := ⟨_, rfl⟩
  rw [hS0] at hld hadd
  clear hS0
  have heq := eql_disk_nil
  have heq2 := eql_soft_nil
  unfold gV at hld hadd
  unfold pt eV at *
  dsimp only at hld hadd
  have HLD := Lib.hid hld
  have HADD := Lib.hid hadd
  clear hld hadd
  go_enter Tryz.func34, Tryz.ntmps34
  obtain ⟨W1, hW1⟩ : ∃ W, w.alloc (.cells #[.int .i64 1, .int .i64 4, .int .i64 4] 27) = W := ⟨_, rfl⟩
  have HB1 : Hid (Below w.heap.size w W1) := by rw [← hW1]; exact bl2 _
  have HG1 : Hid (W1.heap[w.heap.size]? = some (.cells #[.int .i64 1, .int .i64 4, .int .i64 4] 27 (0, 0))) := by rw [← hW1]; exact heapNew w _
  have HZ1 : Hid (w.heap.size < W1.heap.size) := by rw [← hW1]; show _ < _; simp
  have z0 := cellOf (k := 0) HG1.out rfl
  have z1 := cellOf (k := 1) HG1.out rfl
  have z2 := cellOf (k := 2) HG1.out rfl
  go_wp2_with fail
  clear z0 z1 z2 hW1
  refine (HLD.out _).mono ?_
  rintro e w2 ⟨base, B, Bd, D, rfl, hs2, hb2, hD2⟩
  have hM2 : DMem w base B Bd ⟨1, 4, 4⟩ S0 D w2 := by
    have hz := HZ1.out
    exact ⟨hs2, fun j hj => (hD2 j hj).2, fun j hj => by have := (hD2 j hj).1; omega, heapOld hb2 HG1.out, blN HB1.out hb2⟩
  have HM2 := Lib.hid hM2
  clear hs2 hb2 hD2 HG1 HB1 HZ1
  obtain ⟨W3, hW3⟩ : ∃ W, w2.alloc (.cells #[.int .i64 0] 3) = W := ⟨_, rfl⟩
  have hb3 : Below w2.heap.size w2 W3 := by rw [← hW3]; exact bl2 _
  have hz3 : W3.heap[w2.heap.size]? = some (.cells #[.int .i64 0] 3 (0, 0)) := by rw [← hW3]; exact heapNew w2 _
  have hM3 := hM2.below hb3
  have hw3 := HADD.out W3 base B Bd D hM3 _ (fun W' hT => ints_lone (hT.heap hz3 (fun hd => by have := hM2.lt _ hd; omega)))
  have HW3 := Lib.hid hw3
  clear hw3
  clear hM2 hb3 hz3 hM3
  have z0 := cellOf (k := 0) HM2.out.box rfl
  have z1 := cellOf (k := 1) HM2.out.box rfl
  have z2 := cellOf (k := 2) HM2.out.box rfl
  go_wp2_with fail
  clear z0 z1 z2 hW3
  refine HW3.out.mono ?_
  rintro e w4 ⟨v, L, S', D', rfl, hL, hL5, hM4, -, hfi⟩
  obtain ⟨ad, len, cap, rfl, hlen, hn2, -⟩ := RowAt.facts (OwnR.row (f := intC) (fun _ _ => rfl) hL)
  have hl5 : len = 5 := by rw [hlen.out]; exact hL5
  subst hl5
  have HM4 := Lib.hid hM4
  have HFI := Lib.hid hfi
  clear hfi
  clear hL hL5 hM4 hlen hn2
  have z0 := cellOf (k := 0) HM4.out.box rfl
  have z1 := cellOf (k := 1) HM4.out.box rfl
  have z2 := cellOf (k := 2) HM4.out.box rfl
  go_wp2_with fail
  clear z0 z1 z2
  refine (HFI.out _ HM4.out).mono ?_
  rintro e w5 ⟨y, hy1, hy2, rfl, hb5⟩
  obtain ⟨yi, ys, yk, yn⟩ := y
  dsimp only at hy1 hy2
  subst hy1 hy2
  have HF : Hid (Below w.heap.size w w5) := blN HM4.out.bel hb5
  clear hb5
  unfold placeV
  dsimp only
  go_wp2
  go_ret
  exact ⟨rfl, bl1 HF.out _⟩
end
end Go.Proofs.YtaphcmcimoloiaaGreatDoor
