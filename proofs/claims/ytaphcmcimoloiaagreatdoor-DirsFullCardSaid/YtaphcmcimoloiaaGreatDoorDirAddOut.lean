/-
  Walks of layer 17: Add.
-/
import Derived.Test.YtaphcmcimoloiaaGreatDoorDirAsk
import Derived.Test.YtaphcmcimoloiaaGreatDoorDirSet
namespace Go.Proofs.YtaphcmcimoloiaaGreatDoor
open Go Go.RowKit Txt Sp

def AddNo (w : World) (es : List Ent) (x : Sp.Entry) (e : Ending) (w' : World) : Prop :=
  (¬ (x.may ∧ x.inode ≠ 0) ∧ e = .returned (.tuple #[.slice none 0 0, .int .i64 70]) ∧ Below w.heap.size w w') ∨
  (x.may ∧ x.inode ≠ 0 ∧ (findE es x.name).isSome = true ∧ e = .returned (.tuple #[.slice none 0 0, .int .i64 101]) ∧ Below w.heap.size w w')
section
set_option maxHeartbeats 4000000
set_option maxRecDepth 20000 in
theorem dirAddNo_any {w : World} {base Bs Bd : Nat} {S : Sp.Side} {D : Nat → Prop} (h : SideAt w base Bs Bd S D) {g : Sp.Geom} {i : Int} {F : File} (hs : Stands S g i F) (hd : DirOk S.read F) (hb : ∀ b ∈ F.blocks, 0 ≤ b) (hh : ∀ b ∈ dirBlks F, S.disk.has b) (hm : MaxOk w) (x : Sp.Entry) (hxs : x.name.size ≤ maxLen) (vk va : Value)
    (hno : x.may ∧ x.inode ≠ 0 → (findE (ents S.read F) x.name).isSome = true) :
    Calls Tryz.prog 36 #[pt Bs, gV g, .int .i64 i, eV x, vk, va] w (AddNo w (ents S.read F) x) := by
  have hop := fun (W : World) (hW : Below w.heap.size w W) => dopen_any (h.below hW) hs hd hb hh (hm.below hW)
  have hpu := fun (W : World) (hW : Below w.heap.size w W) => eput_any W 0 x (hm.below hW) hxs
  have hfi := fun (W W' : World) (base B : Nat) (hd : DirAt W base B F.node S.read (dirBlks F)) (hb : Below W.heap.size W W') => dfind_any (hd.below hb) x.name
  obtain ⟨es, hes⟩ : ∃ es, ents S.read F = es := ⟨_, rfl⟩
  have hes2 : (dirBlks F).flatMap (entsB S.read) = es := hes
  rw [hes2] at hfi
  rw [hes] at hno ⊢
  unfold DOpenPost at hop
  unfold EPut at hpu
  simp only [if_neg (show ¬ ((0 : Int) < 0 ∨ 4 ≤ (0 : Int)) by omega)] at hpu
  obtain ⟨V, hV⟩ : ∃ V, S.read = V := ⟨_, rfl⟩
  obtain ⟨bl, hbl⟩ : ∃ bl, dirBlks F = bl := ⟨_, rfl⟩
  obtain ⟨nd, hnd⟩ : ∃ nd, F.node = nd := ⟨_, rfl⟩
  rw [hV, hbl, hnd] at hop hfi
  obtain ⟨Q, hQ⟩ : ∃ Q, AddNo w es x = Q := ⟨_, rfl⟩
  have HA : Hid (¬ (x.may ∧ x.inode ≠ 0) → ∀ W, Below w.heap.size w W → Q (.returned (.tuple #[.slice none 0 0, .int .i64 70])) W) := fun h0 W hW => by rw [← hQ]; exact Or.inl ⟨h0, rfl, hW⟩
  have HBq : Hid (x.may → x.inode ≠ 0 → ∀ W, Below w.heap.size w W → Q (.returned (.tuple #[.slice none 0 0, .int .i64 101])) W) := fun h0 h1 W hW => by rw [← hQ]; exact Or.inr ⟨h0, h1, hno ⟨h0, h1⟩, rfl, hW⟩
  rw [hQ]
  obtain ⟨ga, gb, gc⟩ := g
  obtain ⟨xi, xn⟩ := x
  unfold gV pt eV at *
  dsimp only at hop hpu hfi hno HA HBq ⊢
  obtain ⟨W0, hW0⟩ : ∃ W, (w.alloc (.cells #[.int .i64 ga, .int .i64 gb, .int .i64 gc] 27)).alloc (.cells #[.int .i64 xi, .string xn] 69) = W := ⟨_, rfl⟩
  have HB0 : Hid (Below w.heap.size w W0) := by rw [← hW0]; exact (bl2 _).alloc (by simp) _
  have HG0 : Hid (W0.heap[w.heap.size]? = some (.cells #[.int .i64 ga, .int .i64 gb, .int .i64 gc] 27 (0, 0))) := by rw [← hW0]; exact heapOld (bl2 _) (heapNew w _)
  have HX0 : Hid (W0.heap[w.heap.size + 1]? = some (.cells #[.int .i64 xi, .string xn] 69 (0, 0))) := by
    rw [← hW0]
    have a2 := heapNew (w.alloc (.cells #[.int .i64 ga, .int .i64 gb, .int .i64 gc] 27)) (.cells #[.int .i64 xi, .string xn] 69)
    rw [World.size_alloc] at a2
    exact a2
  have z0 := cellOf (k := 0) HG0.out rfl
  have z1 := cellOf (k := 1) HG0.out rfl
  have z2 := cellOf (k := 2) HG0.out rfl
  have HOP := Lib.hid hop
  have HFI := Lib.hid hfi
  clear hop hfi
  have HNo := Lib.hid hno
  clear h hs hd hb hh hm hxs hno hes hes2 hV hbl hnd hQ
  by_cases hmay : (⟨xi, xn⟩ : Sp.Entry).may
  · simp only [if_pos hmay] at hpu
    obtain ⟨tx, htx⟩ : ∃ t, ofL (slotL ⟨xi, xn⟩) = t := ⟨_, rfl⟩
    rw [htx, show (0 : Int) * 16 = 0 from rfl] at hpu
    have HPU := Lib.hid hpu
    clear hpu
    clear htx
    go_enter Tryz.func36, Tryz.ntmps36
    go_wp2_with fail
    clear z0 z1 z2 hW0
    refine (HOP.out W0 HB0.out).mono ?_
    rintro e w1 ⟨B, rfl, hda, hb1⟩
    have HB1 := Lib.hid (blN HB0.out hb1)
    have HX1 := Lib.hid (heapOld hb1 HX0.out)
    have HDA := Lib.hid hda
    clear hda hb1
    have e0 := cellOf (k := 0) HX1.out rfl
    have e1 := cellOf (k := 1) HX1.out rfl
    go_wp2_with fail
    clear e0 e1
    refine (HPU.out w1 HB1.out).mono ?_
    rintro e w2 ⟨rfl, hb2⟩
    have HBw2 : Hid (Below w1.heap.size w1 w2) := hb2
    obtain ⟨W3, hW3⟩ : ∃ W, w2.alloc (.cells #[.int .i64 0, .string tx] 163) = W := ⟨_, rfl⟩
    have HB13 : Hid (Below w1.heap.size w1 W3) := blN hb2 (by rw [← hW3]; exact bl2 _)
    have HB3 := Lib.hid (blN HB1.out HB13.out)
    have HX3 := Lib.hid (heapOld HB13.out HX1.out)
    have e0 := cellOf (k := 0) HX3.out rfl
    have e1 := cellOf (k := 1) HX3.out rfl
    clear hb2
    by_cases hxi : xi = 0
    · have HE := Lib.hid (HA.out (fun h => h.2 hxi) W3 HB3.out)
      have hq : (xi == 0) = true := by simp [hxi]
      clear HA HBq HNo
      go_wp2
      first | exact HE.out | (go_ret2; exact HE.out)
    · obtain ⟨y, hy⟩ := Option.isSome_iff_exists.1 (HNo.out ⟨hmay, hxi⟩)
      rw [hy] at HFI
      have hq : (xi == 0) = false := by simp [hxi]
      have HFI2 := Lib.hid (HFI.out w1 W3 _ B HDA.out HB13.out)
      unfold DFindPost placeV at HFI2
      dsimp only [Option.isSome] at HFI2
      go_wp2_with fail
      clear e0 e1 hW3
      refine HFI2.out.mono ?_
      rintro e w4 ⟨rfl, hb4⟩
      have HE := Lib.hid (HBq.out hmay hxi (w4.alloc (.cells #[.int .i64 y.inode, .int .i64 y.sec, .int .i64 (y.slot : Int)] 72)) (blN HB3.out (blN hb4 (bl2 _))))
      clear hb4
      go_wp2
      first | exact HE.out | (go_ret2; exact HE.out)
  · simp only [if_neg hmay] at hpu
    have HPU := Lib.hid hpu
    clear hpu
    go_enter Tryz.func36, Tryz.ntmps36
    go_wp2_with fail
    clear z0 z1 z2 hW0
    refine (HOP.out W0 HB0.out).mono ?_
    rintro e w1 ⟨B, rfl, hda, hb1⟩
    have HB1 := Lib.hid (blN HB0.out hb1)
    have HX1 := Lib.hid (heapOld hb1 HX0.out)
    have HDA := Lib.hid hda
    clear hda hb1
    have e0 := cellOf (k := 0) HX1.out rfl
    have e1 := cellOf (k := 1) HX1.out rfl
    go_wp2_with fail
    clear e0 e1
    refine (HPU.out w1 HB1.out).mono ?_
    rintro e w2 ⟨rfl, hb2⟩
    have HBw2 : Hid (Below w1.heap.size w1 w2) := hb2
    have HE := Lib.hid (HA.out (fun h => hmay h.1) (w2.alloc (.cells #[.int .i64 0, .string ⟨#[]⟩] 163)) (blN HB1.out (blN hb2 (bl2 _))))
    clear hb2
    go_wp2
    first | exact HE.out | (go_ret2; exact HE.out)
end
end Go.Proofs.YtaphcmcimoloiaaGreatDoor
namespace Go.Proofs.YtaphcmcimoloiaaGreatDoor
open Go Go.RowKit Txt Sp

def AddIn (w : World) (base B Bd : Nat) (S : Sp.Side) (D : Nat → Prop) (x : Sp.Entry) (p : Ent) (e : Ending) (w' : World) : Prop :=
  ∃ v, e = .returned (.tuple #[v, .int .i64 0]) ∧ OwnR 3 1 intC w.heap.size w' v [S.changeN p.sec ((p.slot : Int) * 16) (ofL (slotL x)) []] ∧ SideTo w base B Bd (S.change p.sec ((p.slot : Int) * 16) (ofL (slotL x)) []) D w'
section
set_option maxHeartbeats 4000000
set_option maxRecDepth 20000 in
theorem dirAddIn_any {w : World} {base Bs Bd : Nat} {S : Sp.Side} {D : Nat → Prop} (h : SideAt w base Bs Bd S D) {g : Sp.Geom} {i : Int} {F : File} (hs : Stands S g i F) (hd : DirOk S.read F) (hb : ∀ b ∈ F.blocks, 0 ≤ b) (hh : ∀ b ∈ dirBlks F, S.disk.has b) (hm : MaxOk w) (x : Sp.Entry) (hxs : x.name.size ≤ maxLen) (vk : Value)
    (hlast : S.deps.last < 1000000000) (hmay : x.may) (hxi : x.inode ≠ 0) (hno : findE (ents S.read F) x.name = none) {p : Ent} (hyes : findE (ents S.read F) ⟨#[]⟩ = some p) (hcc : S.changeC p.sec ((p.slot : Int) * 16) (ofL (slotL x)) [] = 0) :
    Calls Tryz.prog 36 #[pt Bs, gV g, .int .i64 i, eV x, vk, .slice none 0 0] w (AddIn w base Bs Bd S D x p) := by
  have hop := fun (W : World) (hW : Below w.heap.size w W) => dopen_any (h.below hW) hs hd hb hh (hm.below hW)
  have hpu := fun (W : World) (hW : Below w.heap.size w W) => eput_any W 0 x (hm.below hW) hxs
  have hfi := fun (W W' : World) (base B : Nat) (hd : DirAt W base B F.node S.read (dirBlks F)) (hb : Below W.heap.size W W') (nm : ByteArray) => dfind_any (hd.below hb) nm
  have hdp := fun (W : World) (hW : Below w.heap.size w W) (a : Int) (k : Nat) (hk : k < 4) => dput_any (h.below hW) hs.ok hlast (hm.below hW) a k hk x hmay (.slice none 0 0) [] (show Ints W (.slice none 0 0) [] from RowAt.void W 1) (by simp)
  obtain ⟨es, hes⟩ : ∃ es, ents S.read F = es := ⟨_, rfl⟩
  have hes2 : (dirBlks F).flatMap (entsB S.read) = es := hes
  rw [hes2] at hfi
  rw [hes] at hno hyes
  have hp4 : p.slot < 4 := by
    have := List.mem_of_find?_eq_some hyes
    rw [← hes2] at this
    exact ents_slot this
  unfold DOpenPost at hop
  unfold EPut at hpu
  simp only [if_neg (show ¬ ((0 : Int) < 0 ∨ 4 ≤ (0 : Int)) by omega)] at hpu
  simp only [if_pos hmay] at hpu
  obtain ⟨V, hV⟩ : ∃ V, S.read = V := ⟨_, rfl⟩
  obtain ⟨bl, hbl⟩ : ∃ bl, dirBlks F = bl := ⟨_, rfl⟩
  obtain ⟨nd, hnd⟩ : ∃ nd, F.node = nd := ⟨_, rfl⟩
  rw [hV, hbl, hnd] at hop hfi
  obtain ⟨N, hN⟩ : ∃ N, S.changeN p.sec ((p.slot : Int) * 16) (ofL (slotL x)) [] = N := ⟨_, rfl⟩
  obtain ⟨S', hS'⟩ : ∃ S', S.change p.sec ((p.slot : Int) * 16) (ofL (slotL x)) [] = S' := ⟨_, rfl⟩
  have hdq : ∀ W, Below w.heap.size w W → Calls Tryz.prog 108 #[pt Bs, .int .i64 p.sec, .int .i64 (p.slot : Int), eV x, .slice none 0 0] W fun e w' => e = .returned (.tuple #[.int .i64 N, .int .i64 0]) ∧ SideTo W base Bs Bd S' D w' := fun W hW => (hdp W hW p.sec p.slot hp4).mono (fun e w' hA => by
    unfold DPutPost at hA
    rw [hN, hS', hcc] at hA
    exact hA)
  obtain ⟨Q, hQ⟩ : ∃ Q, AddIn w base Bs Bd S D x p = Q := ⟨_, rfl⟩
  have HF : Hid (∀ W W5 W' v, Below w.heap.size w W → SideTo W base Bs Bd S' D W5 → Below W5.heap.size W5 W' → OwnR 3 1 intC W5.heap.size W' v [N] → Q (.returned (.tuple #[v, .int .i64 0])) W') := fun W W5 W' v hW hT hb ho => by
    rw [← hQ]
    obtain ⟨_, K, _, hTT⟩ := hT
    have e1 := hTT.size
    have e2 := hW.size
    refine ⟨v, rfl, by rw [hN]; exact ho.mono (by omega), by rw [hS']; exact (SideTo.ahead hW ⟨by assumption, K, by assumption, hTT⟩).behind hb⟩
  rw [hQ]
  obtain ⟨ga, gb, gc⟩ := g
  obtain ⟨xi, xn⟩ := x
  unfold gV pt eV at *
  dsimp only at hop hpu hfi hno hdq HF hxi ⊢
  obtain ⟨W0, hW0⟩ : ∃ W, (w.alloc (.cells #[.int .i64 ga, .int .i64 gb, .int .i64 gc] 27)).alloc (.cells #[.int .i64 xi, .string xn] 69) = W := ⟨_, rfl⟩
  have HB0 : Hid (Below w.heap.size w W0) := by rw [← hW0]; exact (bl2 _).alloc (by simp) _
  have HG0 : Hid (W0.heap[w.heap.size]? = some (.cells #[.int .i64 ga, .int .i64 gb, .int .i64 gc] 27 (0, 0))) := by rw [← hW0]; exact heapOld (bl2 _) (heapNew w _)
  have HX0 : Hid (W0.heap[w.heap.size + 1]? = some (.cells #[.int .i64 xi, .string xn] 69 (0, 0))) := by
    rw [← hW0]
    have a2 := heapNew (w.alloc (.cells #[.int .i64 ga, .int .i64 gb, .int .i64 gc] 27)) (.cells #[.int .i64 xi, .string xn] 69)
    rw [World.size_alloc] at a2
    exact a2
  have z0 := cellOf (k := 0) HG0.out rfl
  have z1 := cellOf (k := 1) HG0.out rfl
  have z2 := cellOf (k := 2) HG0.out rfl
  obtain ⟨tx, htx⟩ : ∃ t, ofL (slotL ⟨xi, xn⟩) = t := ⟨_, rfl⟩
  rw [htx, show (0 : Int) * 16 = 0 from rfl] at hpu
  have HOP := Lib.hid hop
  have HFI := Lib.hid hfi
  have HDQ := Lib.hid hdq
  have HPU := Lib.hid hpu
  clear hop hfi hdq hpu
  have HNo := Lib.hid hno
  have HYes := Lib.hid hyes
  have hq : (xi == 0) = false := by simp [hxi]
  clear h hs hd hb hh hm hxs hno hyes hes hes2 hV hbl hnd hQ hdp hlast hmay hxi hcc hN hS' htx hp4
  go_enter Tryz.func36, Tryz.ntmps36
  go_wp2_with fail
  clear z0 z1 z2 hW0
  refine (HOP.out W0 HB0.out).mono ?_
  rintro e w1 ⟨B, rfl, hda, hb1⟩
  have HB1 := Lib.hid (blN HB0.out hb1)
  have HX1 := Lib.hid (heapOld hb1 HX0.out)
  have HDA := Lib.hid hda
  clear hda hb1
  have e0 := cellOf (k := 0) HX1.out rfl
  have e1 := cellOf (k := 1) HX1.out rfl
  go_wp2_with fail
  clear e0 e1
  refine (HPU.out w1 HB1.out).mono ?_
  rintro e w2 ⟨rfl, hb2⟩
  have HBw2 : Hid (Below w1.heap.size w1 w2) := hb2
  obtain ⟨W3, hW3⟩ : ∃ W, w2.alloc (.cells #[.int .i64 0, .string tx] 163) = W := ⟨_, rfl⟩
  have HB13 : Hid (Below w1.heap.size w1 W3) := blN hb2 (by rw [← hW3]; exact bl2 _)
  have HB3 := Lib.hid (blN HB1.out HB13.out)
  have HX3 := Lib.hid (heapOld HB13.out HX1.out)
  have e0 := cellOf (k := 0) HX3.out rfl
  have e1 := cellOf (k := 1) HX3.out rfl
  clear hb2
  have HFI2 := Lib.hid (HFI.out w1 W3 _ B HDA.out HB13.out xn)
  rw [HNo.out] at HFI2
  unfold DFindPost placeV at HFI2
  dsimp only [Option.isSome] at HFI2
  go_wp2_with fail
  clear e0 e1 hW3
  refine HFI2.out.mono ?_
  rintro e w4 ⟨rfl, hb4⟩
  have HB14 : Hid (Below w1.heap.size w1 (w4.alloc (.cells #[.int .i64 0, .int .i64 0, .int .i64 0] 72))) := blN HB13.out (blN hb4 (bl2 _))
  have HFI3 := Lib.hid (HFI.out w1 _ _ B HDA.out HB14.out ⟨#[]⟩)
  rw [HYes.out] at HFI3
  unfold DFindPost placeV at HFI3
  dsimp only [Option.isSome] at HFI3
  clear hb4
  go_wp2_with fail
  refine HFI3.out.mono ?_
  rintro e w6 ⟨rfl, hb6⟩
  obtain ⟨W7, hW7⟩ : ∃ W, w6.alloc (.cells #[.int .i64 p.inode, .int .i64 p.sec, .int .i64 (p.slot : Int)] 72) = W := ⟨_, rfl⟩
  have HB17 : Hid (Below w1.heap.size w1 W7) := blN HB14.out (blN hb6 (by rw [← hW7]; exact bl2 _))
  have HZ7 : Hid (W7.heap[w6.heap.size]? = some (.cells #[.int .i64 p.inode, .int .i64 p.sec, .int .i64 (p.slot : Int)] 72 (0, 0))) := by rw [← hW7]; exact heapNew w6 _
  have HB7 := Lib.hid (blN HB1.out HB17.out)
  have HX7 := Lib.hid (heapOld HB17.out HX1.out)
  have e0 := cellOf (k := 0) HX7.out rfl
  have e1 := cellOf (k := 1) HX7.out rfl
  have p0 := cellOf (k := 0) HZ7.out rfl
  have p1 := cellOf (k := 1) HZ7.out rfl
  have p2 := cellOf (k := 2) HZ7.out rfl
  clear hb6
  go_wp2_with fail
  clear e0 e1 p0 p1 p2 hW7
  refine (HDQ.out W7 HB7.out).mono ?_
  rintro e w8 ⟨rfl, hs8⟩
  have HS8 := Lib.hid hs8
  obtain ⟨l0, hl0⟩ : ∃ l : List Int, l = [] := ⟨_, rfl⟩
  have HO8 : Hid (OwnR 3 1 intC w8.heap.size w8 (.slice none 0 0) l0) := by rw [hl0]; exact OwnR.void _ _
  have hll : l0.length ≤ 5 := by rw [hl0]; decide
  have HL0 := Lib.hid hl0
  clear hl0
  have HB8 : Hid (Below w8.heap.size w8 w8) := Below.refl _ _
  clear hs8
  obtain ⟨ia9, ib9, ic9, id9, ie9⟩ := info_parts infoInt
  have hrow9 := HO8.out
  unfold OwnR at hrow9
  have HRow9 := Lib.hid hrow9
  clear hrow9
  have HIb9 := Lib.hid ib9
  have HIc9 := Lib.hid ic9
  have HId9 := Lib.hid id9
  have HIe9 := Lib.hid ie9
  clear ib9 ic9 id9 ie9
  go_wp2_with (at_builtin; refine wpList_append_lies _ rfl _ _ _ rfl w8.heap.size 3 ia9 _ 1 8 Tryz.underlying48 HIb9.out HIc9.out HId9.out HIe9.out rfl (by decide) _ _ _ rfl (HRow9.out.alloc _) ⟨w8.heap.size, 0, none⟩ 1 1 [.int .i64 N] rfl rfl (World.news_of_block (cs := #[.int .i64 N]) (t := 3) (fr := (0, 0)) (heapNew w8 _)) (by simp [Value.oneCell']) (by omega) ?c1 ?c2 ?c3 (w8.heap.size + 1) (by simp) ?_)
  case c1 => unfold maxLen; omega
  case c2 => omega
  case c3 => have := HB8.out.size; first | (simp; done) | (simp; omega)
  intro g9 cap9 w9 hown9 hgrow9 hat9 hlt9
  have HO9 := Lib.hid (OwnR.snoc (f := intC) (x := N) hown9 rfl rfl)
  have HB9 : Hid (Below w8.heap.size _ w9) := Below.grown (bl1 HB8.out _) hgrow9 (bl1 HB8.out _).size (fun q hq => (HRow9.out.lt q hq).1)
  clear hown9 hgrow9 hat9 hlt9 HRow9
  have HO10 := HO9.out
  rw [show l0 ++ [N] = [N] by rw [HL0.out]; rfl] at HO10
  have HE := Lib.hid (HF.out W7 w8 _ _ HB7.out HS8.out HB9.out HO10)
  clear HO10 hll
  go_wp2
  first | exact HE.out | (go_ret2; exact HE.out)
end
end Go.Proofs.YtaphcmcimoloiaaGreatDoor
namespace Go.Proofs.YtaphcmcimoloiaaGreatDoor
open Go Go.RowKit Txt Sp

def AddOut (w : World) (base B Bd : Nat) (t' : BSt) (D : Nat → Prop) (x : Sp.Entry) (b : Int) (e : Ending) (w' : World) : Prop :=
  ∃ v, e = .returned (.tuple #[v, .int .i64 0]) ∧ OwnR 3 1 intC w.heap.size w' v (t'.made ++ [t'.S.changeN b (((0 : Nat) : Int) * 16) (ofL (slotL x)) []]) ∧ SideTo w base B Bd (t'.S.change b (((0 : Nat) : Int) * 16) (ofL (slotL x)) []) D w'
theorem addOut_end {w W7 w8 w9 w10 w11 : World} {base B Bd z : Nat} {t' : BSt} {S' : Sp.Side} {D D' K K' : Nat → Prop} {v v' : Value} {o : Obj} {N : Int} (hbs : base ≤ w.heap.size) (h7 : Below w.heap.size w W7) (hK : ∀ j, K j → D j) (hT8 : Turn K W7 w8) (hz : w.heap.size ≤ z ∧ z < W7.heap.size) (hT9 : Turn (fun j => j = z) w8 w9)
    (ho9 : OwnR 3 1 intC W7.heap.size w9 v t'.made) (hsub : ∀ j, D' j → D j ∨ (W7.heap.size ≤ j ∧ j < w8.heap.size)) (hap : ∀ k, v.ownBlock = some k → ¬ D' k) (hs10 : SideAt w10 base B Bd S' (fun j => D' j ∨ (w9.heap.size ≤ j ∧ j < w10.heap.size))) (hK' : ∀ j, K' j → D' j) (hT10 : Turn K' w9 w10)
    (hg : (w10.alloc o).grownBy w11 v.ownBlock) (hown : OwnR 3 1 intC W7.heap.size w11 v' (t'.made ++ [N])) : OwnR 3 1 intC w.heap.size w11 v' (t'.made ++ [N]) ∧ SideTo w base B Bd S' D w11 := by
  have e7 := h7.size
  have e8 := hT8.size
  have e9 := hT9.size
  have e10 := hT10.size
  have e11 : w10.heap.size < w11.heap.size := by have := hg.size; simp at this; omega
  have hT11 : Turn (fun j => v.ownBlock = some j) (w10.alloc o) w11 := ⟨hg.os, hg.tape, hg.output, hg.size, fun k hk hne => hg.block k hk (fun e => hne e.symm)⟩
  refine ⟨hown.mono e7, ((hs10.below (bl2 o)).turn hT11 (fun j hj hk => ?_) (fun j e => by have := (ho9.lt j e).1; omega)).mono (fun j hj => ?_), D, fun _ h => h, ?_⟩
  · rcases hj with hj | hj
    · exact hap j hk hj
    · have := (ho9.lt j hk).2
      omega
  · rcases hj with hj | hj
    · rcases hsub j hj with h | h
      · exact Or.inl h
      · exact Or.inr ⟨by omega, by omega⟩
    · exact Or.inr ⟨by omega, by omega⟩
  · have a1 : Turn D w w8 := (Turn.of_below (K := D) h7).trans hT8 (fun _ _ h => h) (fun _ _ h => hK _ h)
    have a2 : Turn D w w9 := a1.trans hT9 (fun _ _ h => h) (fun j hj e => by omega)
    have a3 : Turn D w w10 := a2.trans hT10 (fun _ _ h => h) (fun j hj e => (hsub j (hK' j e)).elim (fun h => h) (fun h => by omega))
    have a4 : Turn D w (w10.alloc o) := a3.trans (Turn.of_below (K := D) (bl2 o)) (fun _ _ h => h) (fun _ _ h => h)
    exact a4.trans hT11 (fun _ _ h => h) (fun j hj e => by have := (ho9.lt j e).1; omega)
section
set_option maxHeartbeats 4000000
set_option maxRecDepth 20000 in
theorem dirAddOut_any {w : World} {base Bs Bd : Nat} {S : Sp.Side} {D : Nat → Prop} (h : SideAt w base Bs Bd S D) {g : Sp.Geom} {i : Int} {F : File} (hs : Stands S g i F) (hd : DirOk S.read F) (hb : ∀ b ∈ F.blocks, 0 ≤ b) (hh : ∀ b ∈ dirBlks F, S.disk.has b) (hm : MaxOk w) (hmt : ∀ W', Turn D w W' → MaxOk W') (x : Sp.Entry) (hxs : x.name.size ≤ maxLen) (hD : ∀ j, D j → j < w.heap.size) (hlast : S.deps.last ≤ 900000000) (hmay : x.may) (hxi : x.inode ≠ 0) (hno : findE (ents S.read F) x.name = none) (hno2 : findE (ents S.read F) ⟨#[]⟩ = none)
    (vk : Value) (ks : List Int) (hv : ∀ W, Turn D w W → Ints W vk ks) (hks : ∀ k ∈ ks, 0 ≤ k ∧ k < g.groups) (q : Nat) (hq40 : q ≤ 40) (hqs : F.size = ((64 * q : Nat) : Int))
    (c : Int) (hc : ((⟨S, F, []⟩ : BSt).writeC g i ks 1 (64 * q) Sp.blank.data.toList) = c) (hq39 : q < 40) (hc0 : c = 0) (t' : BSt) (ht : ((⟨S, F, []⟩ : BSt).write g i ks 1 (64 * q) Sp.blank.data.toList) = t') (b : Int) (hst : Stands t'.S g i t'.F ∧ t'.F.blocks[q]? = some b) (hlast2 : t'.S.deps.last < 1000000000) (hml : t'.made.length ≤ 100000) (hcc : t'.S.changeC b (((0 : Nat) : Int) * 16) (ofL (slotL x)) [] = 0) :
    Calls Tryz.prog 36 #[pt Bs, gV g, .int .i64 i, eV x, vk, .slice none 0 0] w (AddOut w base Bs Bd t' D x b) := by
  have hbs := h.baseLe
  have hop := fun (W : World) (hW : Below w.heap.size w W) => dopen_any (h.below hW) hs hd hb hh (hm.below hW)
  have hpu := fun (W : World) (hW : Below w.heap.size w W) => eput_any W 0 x (hm.below hW) hxs
  have hfi := fun (W W' : World) (base B : Nat) (hd : DirAt W base B F.node S.read (dirBlks F)) (hb : Below W.heap.size W W') (nm : ByteArray) => dfind_any (hd.below hb) nm
  have hgr := fun (W W' : World) (B : Nat) (base' : Nat) (hW : Below w.heap.size w W') (hWW : Below W.heap.size W W') (hda : DirAt W base' B F.node S.read (dirBlks F)) (hb' : w.heap.size ≤ base') => show Calls Tryz.prog 112 #[pt Bs, gV g, .int .i64 i, pt B, vk] W' (fun e w' => ∃ v, e = .returned (.tuple #[v, .int .i64 b, .int .i64 0]) ∧ SideTo W' base Bs Bd t'.S D w' ∧ FineRow W' base Bs Bd D t' v w') from by
    obtain ⟨hB, vs, us, hz, -, -⟩ := hda
    refine (dgrown_any (h.below hW) (fun j hj => by have := hD j hj; have := hW.size; omega) hs hlast (by rw [hd.kind]; decide) hb vk ks (fun W2 hT => hv W2 ((Turn.of_below (K := D) hW).trans hT (fun _ _ h => h) (fun _ _ h => h))) hks (cs := dirV F.node vs us) q hq40 (heapOld hWW hz) (show (dirV F.node vs us)[2]? = some (Value.int .i64 ((64 * q : Nat) : Int)) by rw [← hqs]; rfl) (fun hk => by have := hD _ hk; omega) c t' hc ht b (fun h1 h2 => hst)).mono (fun e w' hp => ?_)
    rcases hp with ⟨h1, h2, h3⟩ | ⟨h1, h2, h3, h4⟩ | ⟨h1, h2, v, h3, _, h4, h5⟩
    · omega
    · exact absurd hc0 h2
    · exact ⟨v, h3, h4, h5⟩
  have hdp := fun (W : World) (D' : Nat → Prop) (h : SideAt W base Bs Bd t'.S D') (hm : MaxOk W) => dput_any h hst.1.ok hlast2 hm b 0 (by decide) x hmay (.slice none 0 0) [] (show Ints W (.slice none 0 0) [] from RowAt.void W 1) (by simp)
  unfold DPutPost at hdp
  rw [hcc] at hdp
  obtain ⟨es, hes⟩ : ∃ es, ents S.read F = es := ⟨_, rfl⟩
  have hes2 : (dirBlks F).flatMap (entsB S.read) = es := hes
  rw [hes2] at hfi
  rw [hes] at hno hno2
  unfold DOpenPost at hop
  unfold EPut at hpu
  simp only [if_neg (show ¬ ((0 : Int) < 0 ∨ 4 ≤ (0 : Int)) by omega)] at hpu
  simp only [if_pos hmay] at hpu
  obtain ⟨V, hV⟩ : ∃ V, S.read = V := ⟨_, rfl⟩
  obtain ⟨bl, hbl⟩ : ∃ bl, dirBlks F = bl := ⟨_, rfl⟩
  obtain ⟨nd, hnd⟩ : ∃ nd, F.node = nd := ⟨_, rfl⟩
  rw [hV, hbl, hnd] at hop hfi hgr
  obtain ⟨N, hN⟩ : ∃ N, t'.S.changeN b (((0 : Nat) : Int) * 16) (ofL (slotL x)) [] = N := ⟨_, rfl⟩
  obtain ⟨S', hS'⟩ : ∃ S', t'.S.change b (((0 : Nat) : Int) * 16) (ofL (slotL x)) [] = S' := ⟨_, rfl⟩
  rw [hN, hS'] at hdp
  obtain ⟨Q, hQ⟩ : ∃ Q, AddOut w base Bs Bd t' D x b = Q := ⟨_, rfl⟩
  have HF : Hid (∀ W' v, OwnR 3 1 intC w.heap.size W' v (t'.made ++ [N]) → SideTo w base Bs Bd S' D W' → Q (.returned (.tuple #[v, .int .i64 0])) W') := fun W' v h1 h2 => by
    rw [← hQ]
    exact ⟨v, rfl, by rw [hN]; exact h1, by rw [hS']; exact h2⟩
  have HD := Lib.hid hD
  have HMax := Lib.hid hmt
  rw [hQ]
  obtain ⟨ga, gb, gc⟩ := g
  obtain ⟨xi, xn⟩ := x
  unfold gV pt eV at *
  dsimp only at hop hpu hfi hno hgr hdp HF hxi ⊢
  obtain ⟨W0, hW0⟩ : ∃ W, (w.alloc (.cells #[.int .i64 ga, .int .i64 gb, .int .i64 gc] 27)).alloc (.cells #[.int .i64 xi, .string xn] 69) = W := ⟨_, rfl⟩
  have HB0 : Hid (Below w.heap.size w W0) := by rw [← hW0]; exact (bl2 _).alloc (by simp) _
  have HG0 : Hid (W0.heap[w.heap.size]? = some (.cells #[.int .i64 ga, .int .i64 gb, .int .i64 gc] 27 (0, 0))) := by rw [← hW0]; exact heapOld (bl2 _) (heapNew w _)
  have HX0 : Hid (W0.heap[w.heap.size + 1]? = some (.cells #[.int .i64 xi, .string xn] 69 (0, 0))) := by
    rw [← hW0]
    have a2 := heapNew (w.alloc (.cells #[.int .i64 ga, .int .i64 gb, .int .i64 gc] 27)) (.cells #[.int .i64 xi, .string xn] 69)
    rw [World.size_alloc] at a2
    exact a2
  have z0 := cellOf (k := 0) HG0.out rfl
  have z1 := cellOf (k := 1) HG0.out rfl
  have z2 := cellOf (k := 2) HG0.out rfl
  obtain ⟨tx, htx⟩ : ∃ t, ofL (slotL ⟨xi, xn⟩) = t := ⟨_, rfl⟩
  rw [htx, show (0 : Int) * 16 = 0 from rfl] at hpu
  have HOP := Lib.hid hop
  have HFI := Lib.hid hfi
  have HGR := Lib.hid hgr
  have HPU := Lib.hid hpu
  have HDP := Lib.hid hdp
  clear hop hfi hgr hpu hdp
  have HNo := Lib.hid hno
  have HNo2 := Lib.hid hno2
  have hq : (xi == 0) = false := by simp [hxi]
  clear h hs hd hb hh hm hmt hxs hno hno2 hes hes2 hV hbl hnd hQ hlast hmay hxi htx hD hv hks hq40 hqs hc ht hst hlast2 hcc hN hS' hc0
  go_enter Tryz.func36, Tryz.ntmps36
  go_wp2_with fail
  clear z0 z1 z2 hW0
  refine (HOP.out W0 HB0.out).mono ?_
  rintro e w1 ⟨B, rfl, hda, hb1⟩
  have HB1 := Lib.hid (blN HB0.out hb1)
  have HX1 := Lib.hid (heapOld hb1 HX0.out)
  have HG1 := Lib.hid (heapOld hb1 HG0.out)
  have HDA := Lib.hid hda
  clear hda hb1
  have e0 := cellOf (k := 0) HX1.out rfl
  have e1 := cellOf (k := 1) HX1.out rfl
  go_wp2_with fail
  clear e0 e1
  refine (HPU.out w1 HB1.out).mono ?_
  rintro e w2 ⟨rfl, hb2⟩
  have HBw2 : Hid (Below w1.heap.size w1 w2) := hb2
  obtain ⟨W3, hW3⟩ : ∃ W, w2.alloc (.cells #[.int .i64 0, .string tx] 163) = W := ⟨_, rfl⟩
  have HB13 : Hid (Below w1.heap.size w1 W3) := blN hb2 (by rw [← hW3]; exact bl2 _)
  have HB3 := Lib.hid (blN HB1.out HB13.out)
  have HX3 := Lib.hid (heapOld HB13.out HX1.out)
  have e0 := cellOf (k := 0) HX3.out rfl
  have e1 := cellOf (k := 1) HX3.out rfl
  clear hb2
  have HFI2 := Lib.hid (HFI.out w1 W3 _ B HDA.out HB13.out xn)
  rw [HNo.out] at HFI2
  unfold DFindPost placeV at HFI2
  dsimp only [Option.isSome] at HFI2
  go_wp2_with fail
  clear e0 e1 hW3
  refine HFI2.out.mono ?_
  rintro e w4 ⟨rfl, hb4⟩
  have HB14 : Hid (Below w1.heap.size w1 (w4.alloc (.cells #[.int .i64 0, .int .i64 0, .int .i64 0] 72))) := blN HB13.out (blN hb4 (bl2 _))
  have HFI3 := Lib.hid (HFI.out w1 _ _ B HDA.out HB14.out ⟨#[]⟩)
  rw [HNo2.out] at HFI3
  unfold DFindPost placeV at HFI3
  dsimp only [Option.isSome] at HFI3
  clear hb4
  go_wp2_with fail
  refine HFI3.out.mono ?_
  rintro e w6 ⟨rfl, hb6⟩
  have HB17 : Hid (Below w1.heap.size w1 (w6.alloc (.cells #[.int .i64 0, .int .i64 0, .int .i64 0] 72))) := blN HB14.out (blN hb6 (bl2 _))
  have HB7 := Lib.hid (blN HB1.out HB17.out)
  have hg7 := heapOld HB17.out HG1.out
  have z0 := cellOf (k := 0) hg7 rfl
  have z1 := cellOf (k := 1) hg7 rfl
  have z2 := cellOf (k := 2) hg7 rfl
  have hz7 := heapNew w6 (.cells #[.int .i64 0, .int .i64 0, .int .i64 0] 72)
  have HZ7 := Lib.hid hz7
  have HGR2 := Lib.hid (HGR.out w1 (w6.alloc (.cells #[.int .i64 0, .int .i64 0, .int .i64 0] 72)) B _ HB7.out HB17.out HDA.out HB0.out.size)
  have HSz : Hid (w.heap.size ≤ w6.heap.size) := by
    have h1 := HB1.out.size
    have h2 := (blN HB14.out hb6).size
    show _ ≤ _
    omega
  have HX6 := Lib.hid (heapOld (blN HB14.out hb6) HX1.out)
  have HX7 := Lib.hid (heapOld HB17.out HX1.out)
  clear hb6 hg7 hz7
  go_wp2_with fail
  clear z0 z1 z2
  refine HGR2.out.mono ?_
  rintro e w8 ⟨v, rfl, hs8, hf8⟩
  obtain ⟨-, K, hK, hT8⟩ := hs8
  obtain ⟨ho8, D', hsd8, hsub8, hap8⟩ := hf8
  have hnd : ¬ D w6.heap.size := fun hk => by have h1 := HD.out _ hk; have h2 := HSz.out; omega
  have hx8 := hT8.heap HX7.out (fun hk => by have h1 := HD.out _ (hK _ hk); omega)
  have hz8 := hT8.heap HZ7.out (fun hk => hnd (hK _ hk))
  have hxlt := (Array.getElem?_eq_some_iff.1 HX6.out).1
  have y1 := cellOf (k := 1) hz8 rfl
  have f1 : w8.frozen? ⟨w6.heap.size, 1, none⟩ = false := freeOf hz8
  have hT9 : Turn (fun j => j = w6.heap.size) w8 (w8.setCell ⟨w6.heap.size, 1, none⟩ (.int .i64 b)) := setCell_turn (b := w6.heap.size) (k := 1)
  have hz9 := setHeap_at (k := 1) hz8 (.int .i64 b)
  have hx9 := hT9.heap hx8 (by omega)
  have hw7 : (w6.alloc (.cells #[.int .i64 0, .int .i64 0, .int .i64 0] 72)).heap.size = w6.heap.size + 1 := World.size_alloc _ _
  have ho9 := ho8.turn hT9 (fun k hk e => by have := (ho8.lt k hk).1; omega)
  have hsd9 := hsd8.turn hT9 (fun j hj e => by
    rcases hsub8 j hj with h | h
    · rw [e] at h; exact hnd h
    · omega) (fun j e => by have h2 := HSz.out; omega)
  have hTw9 : Turn D w (w8.setCell ⟨w6.heap.size, 1, none⟩ (.int .i64 b)) := ((Turn.of_below (K := D) HB7.out).trans hT8 (fun _ _ h => h) (fun _ _ h => hK _ h)).trans hT9 (fun _ _ h => h) (fun j hj e => by have h2 := HSz.out; omega)
  have hput := HDP.out _ D' hsd9 (HMax.out _ hTw9)
  obtain ⟨w9, hw9⟩ : ∃ W, w8.setCell ⟨w6.heap.size, 1, none⟩ (.int .i64 b) = W := ⟨_, rfl⟩
  rw [hw9] at hT9 hz9 hx9 ho9 hput
  have HEnd := Lib.hid (fun (w10 w11 : World) (K' : Nat → Prop) (v' : Value) (o : Obj) => addOut_end (base := base) (B := Bs) (Bd := Bd) (w10 := w10) (w11 := w11) (K' := K') (v' := v') (o := o) (S' := S') (N := N) (D' := D') hbs HB7.out hK hT8 ⟨HSz.out, by omega⟩ hT9 ho9 hsub8 hap8)
  have HPut := Lib.hid hput
  have HO9 := Lib.hid ho9
  have HAp := Lib.hid hap8
  have e0 := cellOf (k := 0) hx9 rfl
  have e1 := cellOf (k := 1) hx9 rfl
  have p0 := cellOf (k := 0) hz9 rfl
  have p1 := cellOf (k := 1) hz9 rfl
  have p2 := cellOf (k := 2) hz9 rfl
  have hw9b : w9.heap.size = w8.heap.size := by rw [← hw9]; simp
  have HB79 : Hid ((w6.alloc (.cells #[.int .i64 0, .int .i64 0, .int .i64 0] 72)).heap.size ≤ w9.heap.size) := by
    have := hT8.size
    show _ ≤ _
    omega
  clear hT8 hnd hx8 hz8 hxlt hT9 hz9 hx9 hw7 ho9 hsd9 hTw9 hput ho8 hsd8 hsub8 hap8 hw9b hK
  go_wp2_with fail
  clear e0 e1 p0 p1 p2 hw9
  refine HPut.out.mono ?_
  rintro e w10 ⟨rfl, hs10, K', hK', hT10⟩
  have ho10 := HO9.out.turn hT10 (fun k hk hk' => HAp.out k hk (hK' _ hk'))
  have HE2 := Lib.hid (fun w11 v' o => HEnd.out w10 w11 K' v' o hs10 hK' hT10)
  have HO10 := Lib.hid ho10
  obtain ⟨B7, hB7⟩ : ∃ B7, (w6.alloc (.cells #[.int .i64 0, .int .i64 0, .int .i64 0] 72)).heap.size = B7 := ⟨_, rfl⟩
  rw [hB7] at HO10 HE2 HB79
  have HB7le : Hid (B7 ≤ w10.heap.size) := by
    have e1 := hT10.size
    have e2 := HB79.out
    show _ ≤ _
    omega
  clear hs10 hK' hT10 ho10 hB7
  obtain ⟨ia, ib, ic, id, ie⟩ := info_parts infoInt
  have HIb := Lib.hid ib
  have HIc := Lib.hid ic
  have HId := Lib.hid id
  have HIe := Lib.hid ie
  clear ib ic id ie
  have hrow := HO10.out
  unfold OwnR at hrow
  have HRow := Lib.hid hrow
  clear hrow
  go_wp2_with (at_builtin; refine wpList_append_lies _ rfl _ _ _ rfl B7 3 ia _ 1 8 Tryz.underlying48 HIb.out HIc.out HId.out HIe.out rfl (by decide) _ _ _ rfl (HRow.out.alloc _) ⟨w10.heap.size, 0, none⟩ 1 1 [.int .i64 N] rfl rfl (World.news_of_block (cs := #[.int .i64 N]) (t := 3) (fr := (0, 0)) (heapNew w10 _)) (by simp [Value.oneCell']) (by omega) ?c1 ?c2 ?c3 (w10.heap.size + 1) (by simp) ?_)
  case c1 => unfold maxLen; omega
  case c2 => omega
  case c3 => have := HB7le.out; simp; omega
  intro g9 cap9 w11 hown hgrow hat hlt
  have hE := HE2.out w11 _ _ hgrow (OwnR.snoc (f := intC) (x := N) hown rfl rfl)
  have HE := Lib.hid (HF.out w11 _ hE.1 hE.2)
  clear hown hgrow hat hlt hE
  go_wp2
  first | exact HE.out | (go_ret2; exact HE.out)
end
end Go.Proofs.YtaphcmcimoloiaaGreatDoor
