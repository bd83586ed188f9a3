/-
  Walks of layers 12 and 14: Fork: a side that goes its own way; the disk, and what changes wait for, are in common.
-/
import Derived.Test.YtaphcmcimoloiaaGreatDoorSofA
import Derived.Test.YtaphcmcimoloiaaGreatDoorHeldIn
import Derived.Shelf.SlMaps.Clone
import Derived.Test.YtaphcmcimoloiaaGreatDoorSpDirAsk
import Derived.Test.YtaphcmcimoloiaaGreatDoorDirAsk
import Derived.Test.YtaphcmcimoloiaaGreatDoorDirSet
import Derived.Test.YtaphcmcimoloiaaGreatDoorDirWorks
import Derived.Test.YtaphcmcimoloiaaGreatDoorBmE
namespace Go.Proofs.YtaphcmcimoloiaaGreatDoor
open Go Go.RowKit Txt Sp

theorem DiskAt.tight {w : World} {base B : Nat} {d : Sp.Disk} {D : Nat → Prop} (h : DiskAt w base B d D) : ∃ D', DiskAt w base B d D' ∧ (∀ k, D' k → D k) ∧ ∀ k, D' k → k < w.heap.size := by
  obtain ⟨⟨v, wm, h1, h2, h3, h4, h5, h6⟩, ho, hl⟩ := h
  refine ⟨fun k => k = B ∨ k = wm ∨ v.ownBlock = some k, ⟨⟨v, wm, h1, h2, h3, h4, Or.inr (Or.inl rfl), fun k hk => Or.inr (Or.inr hk)⟩, Or.inl rfl, hl⟩, ?_, ?_⟩
  · rintro k (rfl | rfl | hk)
    · exact ho
    · exact h5
    · exact h6 k hk
  · rintro k (rfl | rfl | hk)
    · exact (Array.getElem?_eq_some_iff.1 h1).1
    · exact h3.lt
    · exact (h2.lt k hk).2
section
set_option maxHeartbeats 4000000
set_option maxRecDepth 20000 in
theorem cloneChg_any {w : World} {base : Nat} {v : Value} {ps : List (Sp.Chg × Value)} (hv : OwnR 217 6 chgC base w v ps) (hs : ∀ x ∈ ps, x.2.oneCell' = true) (hl : ps.length ≤ 1024) :
    Calls Tryz.prog 189 #[v] w fun e w' => ∃ v', e = .returned v' ∧ OwnR 217 6 chgC w.heap.size w' v' ps ∧ Below w.heap.size w w' := by
  have hq : ∀ (w : World) (a : Option Addr) (n c n' c' : Nat), (binOp .eql 213 (.slice a n c) (.slice none n' c')).run Tryz.prog w = .ok (.bool a.isNone) w := fun w a n c n' c' => Lib.run_eql_slice_nil w _ _ a n c n' c' Tryz.underlying213
  have hv0 := hv
  unfold OwnR at hv0
  obtain ⟨ia, ib, ic, id, ie⟩ := info_parts infoChange
  obtain ⟨_, ⟨rfl, h0⟩ | ⟨g, cap, cur, rfl, hg, hh, _⟩⟩ := hv
  · obtain rfl := List.length_eq_zero_iff.1 h0
    clear hv0
    go_enter Tryz.func189, Tryz.ntmps189
    go_wp2
    go_ret
    exact ⟨_, rfl, OwnR.void _ _, Below.refl _ _⟩
  · have HRow := Lib.hid (OwnR.below (show OwnR 217 6 chgC base w (.slice (some ⟨g, 0, none⟩) ps.length cap) ps from hv0) (bl2 (.cells #[] 217)))
    have HS := Lib.hid hs
    have HIb := Lib.hid ib
    have HIc := Lib.hid ic
    have HId := Lib.hid id
    have HIe := Lib.hid ie
    clear hv0 ib ic id ie hh
    go_enter Tryz.func189, Tryz.ntmps189
    go_wp2_with (at_builtin; refine wpList_append_rows _ rfl _ _ 213 rfl w.heap.size base 217 ia _ 6 72 Tryz.underlying213 HIb.out HIc.out HId.out HIe.out rfl (by decide) _ _ 0 ps.length [] (ps.flatMap chgC) rfl (World.ownsRow_made w #[] 0 (Nat.le_refl _) (Nat.zero_le _) rfl) rfl HRow.out ?c1 ?c2 ?c3 ?c4 ?_)
    case c1 =>
      intro u hu
      obtain ⟨x, hxm, hx⟩ := List.mem_flatMap.1 hu
      unfold chgC at hx
      simp only [List.mem_cons, List.not_mem_nil, or_false] at hx
      rcases hx with rfl | rfl | rfl | rfl | rfl | rfl
      · rfl
      · rfl
      · rfl
      · rfl
      · exact HS.out x hxm
      · rfl
    case c2 => unfold maxLen; omega
    case c3 => omega
    case c4 => simp
    intro v' w' hown hgrow
    go_wp2
    go_ret
    refine ⟨v', rfl, ?_, ?_⟩
    · unfold OwnR
      simpa using hown
    · exact Below.grown (bl2 _) hgrow (by simp) (fun k hk => by simp [Value.ownBlock] at hk; omega)
theorem DepsAt.lt {w : World} {base B : Nat} {d : Sp.Deps} {D : Nat → Prop} (h : DepsAt w base B d D) : B < w.heap.size := by
  obtain ⟨⟨v, ps, h1, _⟩, _, _⟩ := h
  exact (Array.getElem?_eq_some_iff.1 h1).1
theorem DepsAt.tight {w : World} {base B : Nat} {d : Sp.Deps} {D : Nat → Prop} (h : DepsAt w base B d D) : DepsAt w base B d (fun k => D k ∧ k < w.heap.size) := by
  obtain ⟨⟨v, ps, h1, h2, h3, h4, h5⟩, ho, hl⟩ := h
  exact ⟨⟨v, ps, h1, h2, h3, fun k hk => ⟨h4 k hk, (h3.lt k hk).2⟩, fun x hx => ⟨(h5 x hx).1, fun k hk => ((h5 x hx).2 k hk).imp_left (fun hd => ⟨hd, ((h5 x hx).1.lt k hk).2⟩)⟩⟩, ⟨ho, (Array.getElem?_eq_some_iff.1 h1).1⟩, hl⟩
theorem OwnR.slice {α : Type} {e : TypeId} {size base : Nat} {f : α → List Value} {w : World} {v : Value} {l : List α} (h : OwnR e size f base w v l) : ∃ a n c, v = .slice a n c := by
  obtain ⟨_, ⟨rfl, _⟩ | ⟨g, cap, cur, rfl, _⟩⟩ := h <;> exact ⟨_, _, _, rfl⟩
theorem OwnR.one {α : Type} {e : TypeId} {size base : Nat} {f : α → List Value} {w : World} {v : Value} {l : List α} (h : OwnR e size f base w v l) : v.oneCell' = true := by
  obtain ⟨_, ⟨rfl, _⟩ | ⟨g, cap, cur, rfl, _⟩⟩ := h <;> rfl
set_option maxHeartbeats 4000000 in
set_option maxRecDepth 20000 in
theorem depsFork_any {w : World} {base B : Nat} {d : Sp.Deps} {D : Nat → Prop} (h : DepsAt w base B d D) (hl : d.l.length ≤ 1024) {b0 : Nat} (hb0 : b0 ≤ w.heap.size) (hDb : ∀ k, D k → k < b0) (hbb : base ≤ b0) :
    Calls Tryz.prog 115 #[pt B] w fun e w' => ∃ B', e = .returned (pt B') ∧ DepsAt w' b0 B' d (fun j => b0 ≤ j ∧ j < w'.heap.size) ∧ Below w.heap.size w w' := by
  obtain ⟨⟨v, ps, h1, h2, h3, h4, h5⟩, ho, hlo⟩ := h
  have hpl : ps.length ≤ 1024 := by rw [← h2, List.length_map] at hl; exact hl
  have hcl := fun (W : World) (hW : Below w.heap.size w W) => cloneChg_any (h3.below hW) (fun x hx => (h5 x hx).1.one) hpl
  have hfin : ∀ (W W' : World) (v' : Value), Below w.heap.size w W → OwnR 217 6 chgC w.heap.size W v' ps → W' = W.alloc (depsO v' d.last) → DepsAt W' b0 W.heap.size d (fun j => b0 ≤ j ∧ j < W'.heap.size) ∧ Below w.heap.size w W' := fun W W' v' hW hv' he => by
    subst he
    have hb : Below W.heap.size W (W.alloc (depsO v' d.last)) := bl2 _
    have hs := hW.size
    have hz : (W.alloc (depsO v' d.last)).heap.size = W.heap.size + 1 := by simp
    refine ⟨⟨⟨v', ps, heapNew W _, h2, (hv'.below hb).mono hb0, fun k hk => ?_, fun x hx => ⟨(h5 x hx).1.below (hW.trans (hb.mono hs)), fun k hk => Or.inr (((h5 x hx).2 k hk).elim (hDb k) (fun hlt => by omega))⟩⟩, ⟨by omega, by omega⟩, by omega⟩, hW.trans (hb.mono hs)⟩
    have := hv'.lt k hk
    exact ⟨by omega, by omega⟩
  have hx : ∀ W, Below w.heap.size w W → W.cell? ⟨B, 0, none⟩ = some v ∧ W.cell? ⟨B, 1, none⟩ = some (.int .i64 (d.last : Int)) := fun W hW => ⟨cellOf (k := 0) (heapOld hW h1) rfl, cellOf (k := 1) (heapOld hW h1) rfl⟩
  unfold pt
  obtain ⟨L, hL⟩ : ∃ z : Int, (d.last : Int) = z := ⟨_, rfl⟩
  unfold depsO at hfin
  rw [hL] at hx hfin
  have HCL := Lib.hid hcl
  have HFIN := Lib.hid hfin
  have HX := Lib.hid hx
  clear hcl hfin hx
  clear h1 h2 h3 h4 h5 ho hlo hpl hl hL hb0 hDb hbb
  go_enter Tryz.func115, Tryz.ntmps115
  go_upto_region 1 with fail
  have hSd := HX.out w.drew (blD (Below.refl _ _))
  refine wp_region_last (fun W => W.cell? ⟨B, 0, none⟩ = some v ∧ W.cell? ⟨B, 1, none⟩ = some (.int .i64 L)) 10 (by kernel_rfl) (by first | trivial | assumption) (fun hHeld hClosed => ?_)
  refine AnyU.take (i := 0) (v := ?_) (by kernel_rfl) (by decide) hClosed rfl (by kernel_rfl) (by kernel_rfl) (by kernel_rfl) (fun _ _ _ h => h) (Or.inl ⟨by rfl, ?_⟩) (by first | exact fun _ => hHeld | exact fun h => absurd h (by decide)) (fun hClosed2 => ?_)
  rotate_left
  · (intro w hSw; first | (go_simp; done) | (go_simp; with_reducible rfl))
  clear hClosed; have hClosed := hClosed2; clear hClosed2
  simp only [Act.put, List.setIfInBounds_toArray, List.set_cons_zero, List.set_cons_succ, List.getElem_toArray, List.getElem_cons_zero]
  refine AnyU.take (i := 1) (v := ?_) (by kernel_rfl) (by decide) hClosed rfl (by kernel_rfl) (by kernel_rfl) (by kernel_rfl) (fun _ _ _ h => h) (Or.inl ⟨by rfl, ?_⟩) (by first | exact fun _ => hHeld | exact fun h => absurd h (by decide)) (fun hClosed2 => ?_)
  rotate_left
  · (intro w hSw; first | (go_simp; done) | (go_simp; with_reducible rfl))
  clear hClosed; have hClosed := hClosed2; clear hClosed2
  simp only [Act.put, List.setIfInBounds_toArray, List.set_cons_zero, List.set_cons_succ, List.getElem_toArray, List.getElem_cons_zero, List.getElem_cons_succ]
  refine AnyU.take (i := 2) (v := ?_) (by kernel_rfl) (by decide) hClosed rfl (by kernel_rfl) (by kernel_rfl) (by kernel_rfl) (fun _ _ _ h => h) (Or.inl ⟨by rfl, ?_⟩) (by first | exact fun _ => hHeld | exact fun h => absurd h (by decide)) (fun hClosed2 => ?_)
  rotate_left
  · (intro w hSw; first | (go_simp; done) | (go_simp; with_reducible rfl))
  clear hClosed; have hClosed := hClosed2; clear hClosed2
  simp only [Act.put, List.setIfInBounds_toArray, List.set_cons_zero, List.set_cons_succ, List.getElem_toArray, List.getElem_cons_zero, List.getElem_cons_succ]
  refine AnyU.take (i := 3) (v := ?_) (by kernel_rfl) (by decide) hClosed rfl (by kernel_rfl) (by kernel_rfl) (by kernel_rfl) (fun _ _ _ h => h) (Or.inl ⟨by rfl, ?_⟩) (by first | exact fun _ => hHeld | exact fun h => absurd h (by decide)) (fun hClosed2 => ?_)
  rotate_left
  · (intro w hSw; first | (go_simp; done) | (go_simp; with_reducible rfl))
  clear hClosed; have hClosed := hClosed2; clear hClosed2
  simp only [Act.put, List.setIfInBounds_toArray, List.set_cons_zero, List.set_cons_succ, List.getElem_toArray, List.getElem_cons_zero, List.getElem_cons_succ]
  refine AnyU.take (i := 5) (v := ?_) (by kernel_rfl) (by decide) hClosed rfl (by kernel_rfl) (by kernel_rfl) (by kernel_rfl) (fun _ _ _ h => h) (Or.inl ⟨by rfl, ?_⟩) (by first | exact fun _ => hHeld | exact fun h => absurd h (by decide)) (fun hClosed2 => ?_)
  rotate_left
  · (intro w hSw; first | (go_simp; done) | (go_simp; with_reducible rfl))
  clear hClosed; have hClosed := hClosed2; clear hClosed2
  simp only [Act.put, List.setIfInBounds_toArray, List.set_cons_zero, List.set_cons_succ, List.getElem_toArray, List.getElem_cons_zero, List.getElem_cons_succ]
  refine AnyU.take (i := 6) (v := ?_) (by kernel_rfl) (by decide) hClosed rfl (by kernel_rfl) (by kernel_rfl) (by kernel_rfl) (fun _ _ _ h => h) (Or.inl ⟨by rfl, ?_⟩) (by first | exact fun _ => hHeld | exact fun h => absurd h (by decide)) (fun hClosed2 => ?_)
  rotate_left
  · (intro w hSw; first | (go_simp; done) | (go_simp; with_reducible rfl))
  clear hClosed; have hClosed := hClosed2; clear hClosed2
  simp only [Act.put, List.setIfInBounds_toArray, List.set_cons_zero, List.set_cons_succ, List.getElem_toArray, List.getElem_cons_zero, List.getElem_cons_succ]
  refine AnyU.take (i := 7) (v := ?_) (by kernel_rfl) (by decide) hClosed rfl (by kernel_rfl) (by kernel_rfl) (by kernel_rfl) (fun _ _ _ h => h) (Or.inl ⟨by rfl, ?_⟩) (by first | exact fun _ => hHeld | exact fun h => absurd h (by decide)) (fun hClosed2 => ?_)
  rotate_left
  · (intro w hSw; first | (go_simp; done) | (go_simp; with_reducible rfl))
  clear hClosed; have hClosed := hClosed2; clear hClosed2
  simp only [Act.put, List.setIfInBounds_toArray, List.set_cons_zero, List.set_cons_succ, List.getElem_toArray, List.getElem_cons_zero, List.getElem_cons_succ]
  refine AnyU.take (i := 8) (v := ?_) (by kernel_rfl) (by decide) hClosed rfl (by kernel_rfl) (by kernel_rfl) (by kernel_rfl) (fun _ _ _ h => h) (Or.inl ⟨by rfl, ?_⟩) (by first | exact fun _ => hHeld | exact fun h => absurd h (by decide)) (fun hClosed2 => ?_)
  rotate_left
  · (intro w hSw; first | (go_simp; done) | (go_simp; with_reducible rfl))
  clear hClosed; have hClosed := hClosed2; clear hClosed2
  simp only [Act.put, List.setIfInBounds_toArray, List.set_cons_zero, List.set_cons_succ, List.getElem_toArray, List.getElem_cons_zero, List.getElem_cons_succ]
  refine AnyU.each (is := [4]) (by kernel_rfl) (by simp) (EachU.cons hClosed (by kernel_rfl) rfl (fun K hK => ?_) EachU.nil)
  try simp only [List.getElem_toArray, List.getElem_cons_zero, List.getElem_cons_succ]
  go_simp
  refine (HCL.out _ (blD (Below.refl _ _))).mono ?_
  rintro e w2 ⟨v', rfl, hv2, hb2⟩
  obtain ⟨va, vn, vc, rfl⟩ := hv2.slice
  have HB2 : Hid (Below w.heap.size w w2) := blN (blD (Below.refl _ _)) hb2
  have HV2 := Lib.hid hv2
  clear hb2 hv2
  try simp only
  refine hK.out _ _ (fun _ => ?hkS) (fun hHeld2 hClosed2 => ?_)
  case hkS =>
    exact HX.out _ HB2.out
  clear hHeld; have hHeld := hHeld2 (by decide)
  clear hK K hHeld2 hClosed; have hClosed := hClosed2; clear hClosed2
  try simp only [Act.put, List.setIfInBounds_toArray, List.set_cons_zero, List.set_cons_succ, List.getElem_toArray, List.getElem_cons_zero, List.getElem_cons_succ]
  refine AnyU.take (i := 9) (v := ?_) (by kernel_rfl) (by decide) hClosed rfl (by kernel_rfl) (by kernel_rfl) (by kernel_rfl) (fun _ _ _ h => h) (Or.inl ⟨by rfl, ?_⟩) (by first | exact fun _ => hHeld | exact fun h => absurd h (by decide)) (fun hClosed2 => ?_)
  rotate_left
  · (intro w hSw; first | (go_simp; done) | (go_simp; with_reducible rfl))
  clear hClosed; have hClosed := hClosed2; clear hClosed2
  simp only [Act.put, List.setIfInBounds_toArray, List.set_cons_zero, List.set_cons_succ, List.getElem_toArray, List.getElem_cons_zero, List.getElem_cons_succ]
  refine AnyU.each (is := [10]) (by kernel_rfl) (by simp) (EachU.cons hClosed (by kernel_rfl) rfl (fun K hK => ?_) EachU.nil)
  try simp only [List.getElem_toArray, List.getElem_cons_zero, List.getElem_cons_succ]
  go_simp
  try simp only
  refine hK.out _ _ (fun h => absurd h (by decide)) (fun _ hClosed2 => ?_)
  clear hK K hClosed; have hClosed := hClosed2; clear hClosed2
  try simp only [Act.put, List.setIfInBounds_toArray, List.set_cons_zero, List.set_cons_succ, List.getElem_toArray, List.getElem_cons_zero, List.getElem_cons_succ]
  refine AnyU.pure (i := 11) (v := ?_) (by decide) hClosed rfl (by kernel_rfl) (by kernel_rfl) (by kernel_rfl) (fun _ _ _ h => h) (Or.inl ⟨by rfl, ?_⟩) (by first | exact fun _ => hHeld | exact fun h => absurd h (by decide)) (fun hClosed2 => ?_)
  rotate_left
  · (intro w hSw; first | (go_simp; done) | (go_simp; with_reducible rfl))
  clear hClosed; have hClosed := hClosed2; clear hClosed2
  simp only [Act.put, List.setIfInBounds_toArray, List.set_cons_zero, List.set_cons_succ, List.getElem_toArray, List.getElem_cons_zero, List.getElem_cons_succ]
  refine AnyU.done (by kernel_rfl) ?_ _
  clear hSd hHeld hClosed
  go_wp2
  go_ret
  obtain ⟨r1, r2⟩ := HFIN.out w2 _ _ HB2.out HV2.out rfl
  exact ⟨_, rfl, r1, r2⟩
set_option maxHeartbeats 4000000 in
set_option maxRecDepth 100000 in
theorem cloneFly_any {w : World} {fm : Nat} {l : List (Int × Int)} (h : IM.MapAt intV w fm l) :
    Calls Tryz.prog 116 #[.map (some fm)] w fun e w' => e = .returned (.map (some w.heap.size)) ∧ IM.MapAt intV w' w.heap.size l ∧ Below w.heap.size w w' ∧ w.heap.size < w'.heap.size := by
  obtain ⟨o, ho, es, cl, rfl, hi⟩ := h
  have hq := fun w => run_eql_map_nil_sl (P := Tryz.prog) w 101 _ _ (some fm) Tryz.underlying101
  have HF : Hid (IM.MapAt intV (w.alloc (.map es cl)) w.heap.size l) := ⟨_, heapNew w _, es, cl, rfl, hi⟩
  clear hi
  go_enter Tryz.func116, Tryz.ntmps116
  go_wp2
  rw [run_callFunc_extern Tryz.func190 (by kernel_rfl) (by kernel_rfl) (by kernel_rfl) (e := Extern.MapsClone.clone) (by kernel_rfl), run_maps_clone_sl w 101 ho]
  simp only [Result.andThen]
  rw [Oper.upon_value]
  go_wp2
  rw [run_typeAssert_map_sl _ 101 20 _ _ _ Tryz.underlying101]
  simp only [Result.andThen]
  rw [Oper.upon_value]
  go_wp2
  go_ret
  exact ⟨rfl, HF.out, bl2 _, by simp⟩
set_option maxHeartbeats 4000000 in
set_option maxRecDepth 20000 in
theorem softFork_any {w : World} {base B Bd : Nat} {S : Sp.Side} {D : Nat → Prop} (h : SideAt w base B Bd S D) (hl : S.deps.l.length ≤ 1024) :
    Calls Tryz.prog 39 #[pt B] w fun e w' => ∃ B' D', e = .returned (pt B') ∧ SideAt w' w.heap.size B' Bd S D' ∧ Below w.heap.size w w' ∧ ∀ j, D' j → w.heap.size ≤ j ∧ j < w'.heap.size := by
  obtain ⟨⟨Bc, fm, Dd, h1, h2, h3, h4, h5, h6, hd, hd'⟩, ho, hlo⟩ := h
  obtain ⟨Dt, hdt, -, hlt⟩ := hd.tight
  have hdf := fun (W : World) (hW : Below w.heap.size w W) => depsFork_any (h2.tight.below hW) hl hW.size (fun k hk => hk.2) (Nat.le_trans h2.low (Nat.le_of_lt h2.lt))
  have hcf := fun (W : World) (hW : Below w.heap.size w W) => cloneFly_any (h3.old (hW.block fm h3.lt))
  have hfin : ∀ (W W' : World) (Bc' fm' : Nat) (D1 : Nat → Prop), Below w.heap.size w W → DepsAt W w.heap.size Bc' S.deps D1 → (∀ j, D1 j → w.heap.size ≤ j ∧ j < W.heap.size) → IM.MapAt intV W fm' S.fly → (w.heap.size ≤ fm' ∧ fm' < W.heap.size) → W' = W.alloc (softO Bc' Bd S.node S.epoch fm') →
      (∃ D', SideAt W' w.heap.size W.heap.size Bd S D' ∧ Below w.heap.size w W' ∧ ∀ j, D' j → w.heap.size ≤ j ∧ j < W'.heap.size) := fun W W' Bc' fm' D1 hW hda hD1 hm hfm he => by
    subst he
    have hb : Below W.heap.size W (W.alloc (softO Bc' Bd S.node S.epoch fm')) := bl2 _
    have hs := hW.size
    have hz : (W.alloc (softO Bc' Bd S.node S.epoch fm')).heap.size = W.heap.size + 1 := by simp
    have hbw := hW.trans (hb.mono hs)
    refine ⟨fun j => w.heap.size ≤ j ∧ j < W.heap.size + 1, ⟨⟨Bc', fm', Dt, heapNew W _, (hda.below hb).mono (fun j hj => by have := hD1 j hj; omega), hm.old (hb.block fm' hfm.2), hfm.1, ⟨hfm.1, by omega⟩, fun hh => by have := hlt _ hh; omega, hdt.below hbw, fun k hk => Or.inr (hlt k hk)⟩, ⟨hs, by omega⟩, hs⟩, hbw, fun j hj => ⟨hj.1, by omega⟩⟩
  have hx : ∀ W, Below w.heap.size w W → W.cell? ⟨B, 0, none⟩ = some (.pointer (some ⟨Bc, 0, none⟩)) ∧ W.cell? ⟨B, 1, none⟩ = some (.pointer (some ⟨Bd, 0, none⟩)) ∧ W.cell? ⟨B, 2, none⟩ = some (.int .i64 S.node) ∧ W.cell? ⟨B, 3, none⟩ = some (.int .i64 S.epoch) ∧ W.cell? ⟨B, 4, none⟩ = some (.map (some fm)) := fun W hW =>
    ⟨cellOf (k := 0) (heapOld hW h1) rfl, cellOf (k := 1) (heapOld hW h1) rfl, cellOf (k := 2) (heapOld hW h1) rfl, cellOf (k := 3) (heapOld hW h1) rfl, cellOf (k := 4) (heapOld hW h1) rfl⟩
  unfold pt at hdf ⊢
  obtain ⟨no, hno⟩ : ∃ z, S.node = z := ⟨_, rfl⟩
  obtain ⟨ep, hep⟩ : ∃ z, S.epoch = z := ⟨_, rfl⟩
  unfold softO pt at hfin
  rw [hno, hep] at hx hfin
  have HDF := Lib.hid hdf
  have HCF := Lib.hid hcf
  have HFIN := Lib.hid hfin
  have HX := Lib.hid hx
  clear hdf hcf hfin hx
  clear h1 h2 h3 h4 h5 h6 hd hd' ho hlo hl hdt hlt hno hep
  go_enter Tryz.func39, Tryz.ntmps39
  go_upto_region 1 with fail
  have hSd := HX.out w.drew (blD (Below.refl _ _))
  refine wp_region_last (fun W => W.cell? ⟨B, 0, none⟩ = some (.pointer (some ⟨Bc, 0, none⟩)) ∧ W.cell? ⟨B, 1, none⟩ = some (.pointer (some ⟨Bd, 0, none⟩)) ∧ W.cell? ⟨B, 2, none⟩ = some (.int .i64 no) ∧ W.cell? ⟨B, 3, none⟩ = some (.int .i64 ep) ∧ W.cell? ⟨B, 4, none⟩ = some (.map (some fm))) 23 (by kernel_rfl) (by first | trivial | assumption) (fun hHeld hClosed => ?_)
  refine AnyU.take (i := 0) (v := ?_) (by kernel_rfl) (by decide) hClosed rfl (by kernel_rfl) (by kernel_rfl) (by kernel_rfl) (fun _ _ _ h => h) (Or.inl ⟨by rfl, ?_⟩) (by first | exact fun _ => hHeld | exact fun h => absurd h (by decide)) (fun hClosed2 => ?_)
  rotate_left
  · (intro w hSw; first | (go_simp; done) | (go_simp; with_reducible rfl))
  clear hClosed; have hClosed := hClosed2; clear hClosed2
  simp only [Act.put, List.setIfInBounds_toArray, List.set_cons_zero, List.set_cons_succ, List.getElem_toArray, List.getElem_cons_zero]
  refine AnyU.take (i := 1) (v := ?_) (by kernel_rfl) (by decide) hClosed rfl (by kernel_rfl) (by kernel_rfl) (by kernel_rfl) (fun _ _ _ h => h) (Or.inl ⟨by rfl, ?_⟩) (by first | exact fun _ => hHeld | exact fun h => absurd h (by decide)) (fun hClosed2 => ?_)
  rotate_left
  · (intro w hSw; first | (go_simp; done) | (go_simp; with_reducible rfl))
  clear hClosed; have hClosed := hClosed2; clear hClosed2
  simp only [Act.put, List.setIfInBounds_toArray, List.set_cons_zero, List.set_cons_succ, List.getElem_toArray, List.getElem_cons_zero, List.getElem_cons_succ]
  refine AnyU.take (i := 2) (v := ?_) (by kernel_rfl) (by decide) hClosed rfl (by kernel_rfl) (by kernel_rfl) (by kernel_rfl) (fun _ _ _ h => h) (Or.inl ⟨by rfl, ?_⟩) (by first | exact fun _ => hHeld | exact fun h => absurd h (by decide)) (fun hClosed2 => ?_)
  rotate_left
  · (intro w hSw; first | (go_simp; done) | (go_simp; with_reducible rfl))
  clear hClosed; have hClosed := hClosed2; clear hClosed2
  simp only [Act.put, List.setIfInBounds_toArray, List.set_cons_zero, List.set_cons_succ, List.getElem_toArray, List.getElem_cons_zero, List.getElem_cons_succ]
  refine AnyU.take (i := 3) (v := ?_) (by kernel_rfl) (by decide) hClosed rfl (by kernel_rfl) (by kernel_rfl) (by kernel_rfl) (fun _ _ _ h => h) (Or.inl ⟨by rfl, ?_⟩) (by first | exact fun _ => hHeld | exact fun h => absurd h (by decide)) (fun hClosed2 => ?_)
  rotate_left
  · (intro w hSw; first | (go_simp; done) | (go_simp; with_reducible rfl))
  clear hClosed; have hClosed := hClosed2; clear hClosed2
  simp only [Act.put, List.setIfInBounds_toArray, List.set_cons_zero, List.set_cons_succ, List.getElem_toArray, List.getElem_cons_zero, List.getElem_cons_succ]
  refine AnyU.take (i := 5) (v := ?_) (by kernel_rfl) (by decide) hClosed rfl (by kernel_rfl) (by kernel_rfl) (by kernel_rfl) (fun _ _ _ h => h) (Or.inl ⟨by rfl, ?_⟩) (by first | exact fun _ => hHeld | exact fun h => absurd h (by decide)) (fun hClosed2 => ?_)
  rotate_left
  · (intro w hSw; first | (go_simp; done) | (go_simp; with_reducible rfl))
  clear hClosed; have hClosed := hClosed2; clear hClosed2
  simp only [Act.put, List.setIfInBounds_toArray, List.set_cons_zero, List.set_cons_succ, List.getElem_toArray, List.getElem_cons_zero, List.getElem_cons_succ]
  refine AnyU.take (i := 6) (v := ?_) (by kernel_rfl) (by decide) hClosed rfl (by kernel_rfl) (by kernel_rfl) (by kernel_rfl) (fun _ _ _ h => h) (Or.inl ⟨by rfl, ?_⟩) (by first | exact fun _ => hHeld | exact fun h => absurd h (by decide)) (fun hClosed2 => ?_)
  rotate_left
  · (intro w hSw; first | (go_simp; done) | (go_simp; with_reducible rfl))
  clear hClosed; have hClosed := hClosed2; clear hClosed2
  simp only [Act.put, List.setIfInBounds_toArray, List.set_cons_zero, List.set_cons_succ, List.getElem_toArray, List.getElem_cons_zero, List.getElem_cons_succ]
  refine AnyU.take (i := 7) (v := ?_) (by kernel_rfl) (by decide) hClosed rfl (by kernel_rfl) (by kernel_rfl) (by kernel_rfl) (fun _ _ _ h => h) (Or.inl ⟨by rfl, ?_⟩) (by first | exact fun _ => hHeld | exact fun h => absurd h (by decide)) (fun hClosed2 => ?_)
  rotate_left
  · (intro w hSw; first | (go_simp; done) | (go_simp; with_reducible rfl))
  clear hClosed; have hClosed := hClosed2; clear hClosed2
  simp only [Act.put, List.setIfInBounds_toArray, List.set_cons_zero, List.set_cons_succ, List.getElem_toArray, List.getElem_cons_zero, List.getElem_cons_succ]
  refine AnyU.take (i := 8) (v := ?_) (by kernel_rfl) (by decide) hClosed rfl (by kernel_rfl) (by kernel_rfl) (by kernel_rfl) (fun _ _ _ h => h) (Or.inl ⟨by rfl, ?_⟩) (by first | exact fun _ => hHeld | exact fun h => absurd h (by decide)) (fun hClosed2 => ?_)
  rotate_left
  · (intro w hSw; first | (go_simp; done) | (go_simp; with_reducible rfl))
  clear hClosed; have hClosed := hClosed2; clear hClosed2
  simp only [Act.put, List.setIfInBounds_toArray, List.set_cons_zero, List.set_cons_succ, List.getElem_toArray, List.getElem_cons_zero, List.getElem_cons_succ]
  refine AnyU.take (i := 9) (v := ?_) (by kernel_rfl) (by decide) hClosed rfl (by kernel_rfl) (by kernel_rfl) (by kernel_rfl) (fun _ _ _ h => h) (Or.inl ⟨by rfl, ?_⟩) (by first | exact fun _ => hHeld | exact fun h => absurd h (by decide)) (fun hClosed2 => ?_)
  rotate_left
  · (intro w hSw; first | (go_simp; done) | (go_simp; with_reducible rfl))
  clear hClosed; have hClosed := hClosed2; clear hClosed2
  simp only [Act.put, List.setIfInBounds_toArray, List.set_cons_zero, List.set_cons_succ, List.getElem_toArray, List.getElem_cons_zero, List.getElem_cons_succ]
  refine AnyU.take (i := 10) (v := ?_) (by kernel_rfl) (by decide) hClosed rfl (by kernel_rfl) (by kernel_rfl) (by kernel_rfl) (fun _ _ _ h => h) (Or.inl ⟨by rfl, ?_⟩) (by first | exact fun _ => hHeld | exact fun h => absurd h (by decide)) (fun hClosed2 => ?_)
  rotate_left
  · (intro w hSw; first | (go_simp; done) | (go_simp; with_reducible rfl))
  clear hClosed; have hClosed := hClosed2; clear hClosed2
  simp only [Act.put, List.setIfInBounds_toArray, List.set_cons_zero, List.set_cons_succ, List.getElem_toArray, List.getElem_cons_zero, List.getElem_cons_succ]
  refine AnyU.take (i := 11) (v := ?_) (by kernel_rfl) (by decide) hClosed rfl (by kernel_rfl) (by kernel_rfl) (by kernel_rfl) (fun _ _ _ h => h) (Or.inl ⟨by rfl, ?_⟩) (by first | exact fun _ => hHeld | exact fun h => absurd h (by decide)) (fun hClosed2 => ?_)
  rotate_left
  · (intro w hSw; first | (go_simp; done) | (go_simp; with_reducible rfl))
  clear hClosed; have hClosed := hClosed2; clear hClosed2
  simp only [Act.put, List.setIfInBounds_toArray, List.set_cons_zero, List.set_cons_succ, List.getElem_toArray, List.getElem_cons_zero, List.getElem_cons_succ]
  refine AnyU.take (i := 12) (v := ?_) (by kernel_rfl) (by decide) hClosed rfl (by kernel_rfl) (by kernel_rfl) (by kernel_rfl) (fun _ _ _ h => h) (Or.inl ⟨by rfl, ?_⟩) (by first | exact fun _ => hHeld | exact fun h => absurd h (by decide)) (fun hClosed2 => ?_)
  rotate_left
  · (intro w hSw; first | (go_simp; done) | (go_simp; with_reducible rfl))
  clear hClosed; have hClosed := hClosed2; clear hClosed2
  simp only [Act.put, List.setIfInBounds_toArray, List.set_cons_zero, List.set_cons_succ, List.getElem_toArray, List.getElem_cons_zero, List.getElem_cons_succ]
  refine AnyU.take (i := 13) (v := ?_) (by kernel_rfl) (by decide) hClosed rfl (by kernel_rfl) (by kernel_rfl) (by kernel_rfl) (fun _ _ _ h => h) (Or.inl ⟨by rfl, ?_⟩) (by first | exact fun _ => hHeld | exact fun h => absurd h (by decide)) (fun hClosed2 => ?_)
  rotate_left
  · (intro w hSw; first | (go_simp; done) | (go_simp; with_reducible rfl))
  clear hClosed; have hClosed := hClosed2; clear hClosed2
  simp only [Act.put, List.setIfInBounds_toArray, List.set_cons_zero, List.set_cons_succ, List.getElem_toArray, List.getElem_cons_zero, List.getElem_cons_succ]
  refine AnyU.take (i := 14) (v := ?_) (by kernel_rfl) (by decide) hClosed rfl (by kernel_rfl) (by kernel_rfl) (by kernel_rfl) (fun _ _ _ h => h) (Or.inl ⟨by rfl, ?_⟩) (by first | exact fun _ => hHeld | exact fun h => absurd h (by decide)) (fun hClosed2 => ?_)
  rotate_left
  · (intro w hSw; first | (go_simp; done) | (go_simp; with_reducible rfl))
  clear hClosed; have hClosed := hClosed2; clear hClosed2
  simp only [Act.put, List.setIfInBounds_toArray, List.set_cons_zero, List.set_cons_succ, List.getElem_toArray, List.getElem_cons_zero, List.getElem_cons_succ]
  refine AnyU.take (i := 15) (v := ?_) (by kernel_rfl) (by decide) hClosed rfl (by kernel_rfl) (by kernel_rfl) (by kernel_rfl) (fun _ _ _ h => h) (Or.inl ⟨by rfl, ?_⟩) (by first | exact fun _ => hHeld | exact fun h => absurd h (by decide)) (fun hClosed2 => ?_)
  rotate_left
  · (intro w hSw; first | (go_simp; done) | (go_simp; with_reducible rfl))
  clear hClosed; have hClosed := hClosed2; clear hClosed2
  simp only [Act.put, List.setIfInBounds_toArray, List.set_cons_zero, List.set_cons_succ, List.getElem_toArray, List.getElem_cons_zero, List.getElem_cons_succ]
  refine AnyU.take (i := 16) (v := ?_) (by kernel_rfl) (by decide) hClosed rfl (by kernel_rfl) (by kernel_rfl) (by kernel_rfl) (fun _ _ _ h => h) (Or.inl ⟨by rfl, ?_⟩) (by first | exact fun _ => hHeld | exact fun h => absurd h (by decide)) (fun hClosed2 => ?_)
  rotate_left
  · (intro w hSw; first | (go_simp; done) | (go_simp; with_reducible rfl))
  clear hClosed; have hClosed := hClosed2; clear hClosed2
  simp only [Act.put, List.setIfInBounds_toArray, List.set_cons_zero, List.set_cons_succ, List.getElem_toArray, List.getElem_cons_zero, List.getElem_cons_succ]
  refine AnyU.take (i := 17) (v := ?_) (by kernel_rfl) (by decide) hClosed rfl (by kernel_rfl) (by kernel_rfl) (by kernel_rfl) (fun _ _ _ h => h) (Or.inl ⟨by rfl, ?_⟩) (by first | exact fun _ => hHeld | exact fun h => absurd h (by decide)) (fun hClosed2 => ?_)
  rotate_left
  · (intro w hSw; first | (go_simp; done) | (go_simp; with_reducible rfl))
  clear hClosed; have hClosed := hClosed2; clear hClosed2
  simp only [Act.put, List.setIfInBounds_toArray, List.set_cons_zero, List.set_cons_succ, List.getElem_toArray, List.getElem_cons_zero, List.getElem_cons_succ]
  refine AnyU.take (i := 18) (v := ?_) (by kernel_rfl) (by decide) hClosed rfl (by kernel_rfl) (by kernel_rfl) (by kernel_rfl) (fun _ _ _ h => h) (Or.inl ⟨by rfl, ?_⟩) (by first | exact fun _ => hHeld | exact fun h => absurd h (by decide)) (fun hClosed2 => ?_)
  rotate_left
  · (intro w hSw; first | (go_simp; done) | (go_simp; with_reducible rfl))
  clear hClosed; have hClosed := hClosed2; clear hClosed2
  simp only [Act.put, List.setIfInBounds_toArray, List.set_cons_zero, List.set_cons_succ, List.getElem_toArray, List.getElem_cons_zero, List.getElem_cons_succ]
  refine AnyU.take (i := 19) (v := ?_) (by kernel_rfl) (by decide) hClosed rfl (by kernel_rfl) (by kernel_rfl) (by kernel_rfl) (fun _ _ _ h => h) (Or.inl ⟨by rfl, ?_⟩) (by first | exact fun _ => hHeld | exact fun h => absurd h (by decide)) (fun hClosed2 => ?_)
  rotate_left
  · (intro w hSw; first | (go_simp; done) | (go_simp; with_reducible rfl))
  clear hClosed; have hClosed := hClosed2; clear hClosed2
  simp only [Act.put, List.setIfInBounds_toArray, List.set_cons_zero, List.set_cons_succ, List.getElem_toArray, List.getElem_cons_zero, List.getElem_cons_succ]
  refine AnyU.take (i := 20) (v := ?_) (by kernel_rfl) (by decide) hClosed rfl (by kernel_rfl) (by kernel_rfl) (by kernel_rfl) (fun _ _ _ h => h) (Or.inl ⟨by rfl, ?_⟩) (by first | exact fun _ => hHeld | exact fun h => absurd h (by decide)) (fun hClosed2 => ?_)
  rotate_left
  · (intro w hSw; first | (go_simp; done) | (go_simp; with_reducible rfl))
  clear hClosed; have hClosed := hClosed2; clear hClosed2
  simp only [Act.put, List.setIfInBounds_toArray, List.set_cons_zero, List.set_cons_succ, List.getElem_toArray, List.getElem_cons_zero, List.getElem_cons_succ]
  refine AnyU.each (is := [4]) (by kernel_rfl) (by simp) (EachU.cons hClosed (by kernel_rfl) rfl (fun K hK => ?_) EachU.nil)
  try simp only [List.getElem_toArray, List.getElem_cons_zero, List.getElem_cons_succ]
  go_simp
  refine (HDF.out _ (blD (Below.refl _ _))).mono ?_
  rintro e w2 ⟨Bc', rfl, hd2, hb2⟩
  have HB2 : Hid (Below w.heap.size w w2) := blN (blD (Below.refl _ _)) hb2
  have HD2 := Lib.hid hd2
  clear hb2 hd2
  try simp only
  refine hK.out _ _ (fun _ => ?hkS) (fun hHeld2 hClosed2 => ?_)
  case hkS =>
    exact HX.out _ HB2.out
  clear hHeld; have hHeld := hHeld2 (by decide)
  clear hK K hHeld2 hClosed; have hClosed := hClosed2; clear hClosed2
  try simp only [Act.put, List.setIfInBounds_toArray, List.set_cons_zero, List.set_cons_succ, List.getElem_toArray, List.getElem_cons_zero, List.getElem_cons_succ]
  refine AnyU.each (is := [21]) (by kernel_rfl) (by simp) (EachU.cons hClosed (by kernel_rfl) rfl (fun K hK => ?_) EachU.nil)
  try simp only [List.getElem_toArray, List.getElem_cons_zero, List.getElem_cons_succ]
  go_simp
  refine (HCF.out _ HB2.out).mono ?_
  rintro e w3 ⟨rfl, hm3, hb3, hz3⟩
  have HB3 : Hid (Below w.heap.size w w3) := blN HB2.out hb3
  have HD3 := Lib.hid (HD2.out.below hb3)
  have HM3 : Hid (IM.MapAt intV w3 w2.heap.size S.fly ∧ w.heap.size ≤ w2.heap.size ∧ w2.heap.size < w3.heap.size) := ⟨hm3, HB2.out.size, hz3⟩
  clear hm3 hb3 hz3
  try simp only
  refine hK.out _ _ (fun _ => ?hkS) (fun hHeld2 hClosed2 => ?_)
  case hkS =>
    exact HX.out _ HB3.out
  clear hHeld; have hHeld := hHeld2 (by decide)
  clear hK K hHeld2 hClosed; have hClosed := hClosed2; clear hClosed2
  try simp only [Act.put, List.setIfInBounds_toArray, List.set_cons_zero, List.set_cons_succ, List.getElem_toArray, List.getElem_cons_zero, List.getElem_cons_succ]
  refine AnyU.take (i := 22) (v := ?_) (by kernel_rfl) (by decide) hClosed rfl (by kernel_rfl) (by kernel_rfl) (by kernel_rfl) (fun _ _ _ h => h) (Or.inl ⟨by rfl, ?_⟩) (by first | exact fun _ => hHeld | exact fun h => absurd h (by decide)) (fun hClosed2 => ?_)
  rotate_left
  · (intro w hSw; first | (go_simp; done) | (go_simp; with_reducible rfl))
  clear hClosed; have hClosed := hClosed2; clear hClosed2
  simp only [Act.put, List.setIfInBounds_toArray, List.set_cons_zero, List.set_cons_succ, List.getElem_toArray, List.getElem_cons_zero, List.getElem_cons_succ]
  refine AnyU.each (is := [23]) (by kernel_rfl) (by simp) (EachU.cons hClosed (by kernel_rfl) rfl (fun K hK => ?_) EachU.nil)
  try simp only [List.getElem_toArray, List.getElem_cons_zero, List.getElem_cons_succ]
  go_simp
  try simp only
  refine hK.out _ _ (fun h => absurd h (by decide)) (fun _ hClosed2 => ?_)
  clear hK K hClosed; have hClosed := hClosed2; clear hClosed2
  try simp only [Act.put, List.setIfInBounds_toArray, List.set_cons_zero, List.set_cons_succ, List.getElem_toArray, List.getElem_cons_zero, List.getElem_cons_succ]
  refine AnyU.pure (i := 24) (v := ?_) (by decide) hClosed rfl (by kernel_rfl) (by kernel_rfl) (by kernel_rfl) (fun _ _ _ h => h) (Or.inl ⟨by rfl, ?_⟩) (by first | exact fun _ => hHeld | exact fun h => absurd h (by decide)) (fun hClosed2 => ?_)
  rotate_left
  · (intro w hSw; first | (go_simp; done) | (go_simp; with_reducible rfl))
  clear hClosed; have hClosed := hClosed2; clear hClosed2
  simp only [Act.put, List.setIfInBounds_toArray, List.set_cons_zero, List.set_cons_succ, List.getElem_toArray, List.getElem_cons_zero, List.getElem_cons_succ]
  refine AnyU.done (by kernel_rfl) ?_ _
  clear hSd hHeld hClosed
  go_wp2
  go_ret
  obtain ⟨D', r1, r2, r3⟩ := HFIN.out w3 _ Bc' w2.heap.size _ HB3.out HD3.out (fun j hj => ⟨hj.1, by have := hj.2; have := HM3.out.2; omega⟩) HM3.out.1 HM3.out.2 rfl
  exact ⟨_, D', rfl, r1, r2, r3⟩
end
end Go.Proofs.YtaphcmcimoloiaaGreatDoor
namespace Go.Proofs.YtaphcmcimoloiaaGreatDoor.Sp
open Go Txt

section
variable {g : Geom}
theorem Taken.le {S : Side} {b : Bool} {no : Int → Int → Int} {X : List Int} (hT : Taken S g b no X) (hn : NoInj g b no) {ks : List Int} (hk : ∀ k, k ∈ ks ↔ 0 ≤ k ∧ k < g.groups) (hd : ks.Nodup) :
    X.length ≤ (numsK g b no ks).length ∧ (X.length = (numsK g b no ks).length → ∀ x ∈ numsK g b no ks, x ∈ X) := by
  have h1 := filter_mem_count (numsK_nodup hn (fun k h => (hk k).1 h) hd) X hT.nodup (fun x hx => by
    obtain ⟨k, p, h1, h2, rfl⟩ := hT.sub x hx
    exact List.mem_flatMap.2 ⟨k, (hk k).2 h1, List.mem_map.2 ⟨p.toNat, List.mem_range.2 (by omega), by rw [Int.toNat_of_nonneg h2.1]⟩⟩)
  refine ⟨h1 ▸ List.length_filter_le _ _, fun he x hx => ?_⟩
  rw [he, List.length_filter_eq_length_iff] at h1
  simpa using h1 x hx
theorem mem_nums {b : Bool} {no : Int → Int → Int} {ks : List Int} {k : Int} (hk : k ∈ ks) {p : Nat} (hp : (p : Int) < manyG g b) : no k p ∈ numsK g b no ks :=
  List.mem_flatMap.2 ⟨k, hk, List.mem_map.2 ⟨p, List.mem_range.2 (by omega), rfl⟩⟩
end
section
variable {g : Geom} {i : Int} {S : Side} {F : File} {X Y : List Int} {r q : Nat}
theorem full8 (h : Dir g i S F X Y r q) (hg : g.ok) (hr : r < 1024) {ks : List Int} (hk : ∀ k ∈ ks, 0 ≤ k ∧ k < g.groups) (hall : ∀ k p : Int, (0 ≤ k ∧ k < g.groups) → (0 ≤ p ∧ p < g.blocks) → blockNo g k p ∈ Y) (hq : q < 40) :
    (⟨S, F, []⟩ : BSt).writeC g i ks 1 (64 * q) blank.data.toList = 109 := by
  obtain ⟨t, ht⟩ : ∃ t : BSt, (⟨S, F, []⟩ : BSt) = t := ⟨_, rfl⟩
  have hS : t.S = S := by rw [← ht]
  have hF : t.F = F := by rw [← ht]
  rw [ht]
  have h0 : t.F.blocks.getD q 0 = 0 := Classical.byContradiction fun hn => by
    rw [hF] at hn
    have := (h.full q (by omega)).1 hn
    omega
  have hfr : ∀ x, t.freshC g ks x = 109 := fun x => by
    unfold BSt.freshC
    have : (t.S.block g ks).2.2.2 = 109 := by
      rw [hS]
      rcases h.bm.block hg hr hk with ⟨N, S', _, hn, ⟨k, p, hkk, hpp, rfl⟩, _⟩ | ⟨e, _⟩
      · exact absurd (hall k p hkk hpp) hn
      · rw [e]
    rw [this]
    exact thenC_no (by decide)
  have hput : t.putC g i ks q 0 blank = 109 := by
    unfold BSt.putC
    rw [if_neg (fun hh => hh h0)]
    by_cases hh : 8 ≤ q ∧ t.F.more = 0
    · have hlc : t.listedC g i ks q = 109 := by
        unfold BSt.listedC
        rw [if_pos hh, hfr]
        exact thenC_no (by decide)
      rw [hlc]
      exact thenC_no (by decide)
    · have hls : t.listed g i ks q = t := if_neg hh
      have hlc : t.listedC g i ks q = 0 := if_neg hh
      rw [hls, thenC_zero hlc]
      unfold BSt.namedC
      rw [hfr]
      exact thenC_no (by decide)
  unfold BSt.writeC
  rw [(puts_one g i ks t q).2, hput]
  rfl
theorem all_taken (h : Dir g i S F X Y r q) (hg : g.ok) (h1 : g.groups = 1) (hY : Y.length = g.blocks.toNat) : ∀ k p : Int, (0 ≤ k ∧ k < g.groups) → (0 ≤ p ∧ p < g.blocks) → blockNo g k p ∈ Y := fun k p hk hp => by
  have hle := h.bm.held.tb.le (blockNo_inj hg) (ks := [0]) (fun k => by rw [List.mem_singleton]; omega) (by simp)
  have hm : (numsK g true (blockNo g) [0]).length = g.blocks.toNat := by
    rw [numsK_length]
    show 1 * (manyG g true).toNat = _
    unfold manyG
    simp
  have := hle.2 (by rw [hm, hY])
  have hk0 : k = 0 := by omega
  subst hk0
  have hmem := mem_nums (g := g) (b := true) (no := blockNo g) (ks := [0]) (k := 0) (List.mem_singleton.2 rfl) (p := p.toNat) (by show ((p.toNat : Nat) : Int) < manyG g true; unfold manyG; simp; omega)
  rw [Int.toNat_of_nonneg hp.1] at hmem
  exact this _ hmem
theorem Dir.most (h : Dir g i S F X Y r q) : (pairsE (ents S.read F)).length ≤ 4 * q := by
  rw [← h.length]
  unfold pairsE
  rw [List.length_map]
  exact List.length_filter_le _ _
end
end Go.Proofs.YtaphcmcimoloiaaGreatDoor.Sp
namespace Go.Proofs.YtaphcmcimoloiaaGreatDoor
open Go Go.RowKit Txt Sp

def fullC (q : Nat) (c : Int) : Int := if 40 ≤ q then 109 else c
section
set_option maxHeartbeats 4000000
set_option maxRecDepth 20000 in
theorem dirAddFull_any {w : World} {base Bs Bd : Nat} {S : Sp.Side} {D : Nat → Prop} (h : SideAt w base Bs Bd S D) {g : Sp.Geom} {i : Int} {F : File} (hs : Stands S g i F) (hd : DirOk S.read F) (hb : ∀ b ∈ F.blocks, 0 ≤ b) (hh : ∀ b ∈ dirBlks F, S.disk.has b) (hm : MaxOk w) (x : Sp.Entry) (hxs : x.name.size ≤ maxLen) (hD : ∀ j, D j → j < w.heap.size) (hlast : S.deps.last ≤ 900000000) (hmay : x.may) (hxi : x.inode ≠ 0) (hno : findE (ents S.read F) x.name = none) (hno2 : findE (ents S.read F) ⟨#[]⟩ = none)
    (vk : Value) (ks : List Int) (hv : ∀ W, Turn D w W → Ints W vk ks) (hks : ∀ k ∈ ks, 0 ≤ k ∧ k < g.groups) (q : Nat) (hq40 : q ≤ 40) (hqs : F.size = ((64 * q : Nat) : Int))
    (c : Int) (hc : ((⟨S, F, []⟩ : BSt).writeC g i ks 1 (64 * q) Sp.blank.data.toList) = c) (hfull : 40 ≤ q ∨ c ≠ 0) :
    Calls Tryz.prog 36 #[pt Bs, gV g, .int .i64 i, eV x, vk, .slice none 0 0] w (fun e w' => e = .returned (.tuple #[.slice none 0 0, .int .i64 (fullC q c)]) ∧ Turn D w w') := by
  have hop := fun (W : World) (hW : Below w.heap.size w W) => dopen_any (h.below hW) hs hd hb hh (hm.below hW)
  have hpu := fun (W : World) (hW : Below w.heap.size w W) => eput_any W 0 x (hm.below hW) hxs
  have hfi := fun (W W' : World) (base B : Nat) (hd : DirAt W base B F.node S.read (dirBlks F)) (hb : Below W.heap.size W W') (nm : ByteArray) => dfind_any (hd.below hb) nm
  have hgr := fun (W W' : World) (B : Nat) (base' : Nat) (hW : Below w.heap.size w W') (hWW : Below W.heap.size W W') (hda : DirAt W base' B F.node S.read (dirBlks F)) (hb' : w.heap.size ≤ base') => show Calls Tryz.prog 112 #[pt Bs, gV g, .int .i64 i, pt B, vk] W' (fun e w' => e = .returned (.tuple #[.slice none 0 0, .int .i64 0, .int .i64 (fullC q c)]) ∧ Turn D W' w') from by
    obtain ⟨hB, vs, us, hz, -, -⟩ := hda
    obtain ⟨b, hbb⟩ : ∃ b : Int, b = 0 := ⟨_, rfl⟩
    refine (dgrown_any (h.below hW) (fun j hj => by have := hD j hj; have := hW.size; omega) hs hlast (by rw [hd.kind]; decide) hb vk ks (fun W2 hT => hv W2 ((Turn.of_below (K := D) hW).trans hT (fun _ _ h => h) (fun _ _ h => h))) hks (cs := dirV F.node vs us) q hq40 (heapOld hWW hz) (show (dirV F.node vs us)[2]? = some (Value.int .i64 ((64 * q : Nat) : Int)) by rw [← hqs]; rfl) (fun hk => by have := hD _ hk; omega) c _ hc rfl b (fun h1 h2 => by rcases hfull with h3 | h3 <;> first | omega | exact absurd h2 h3)).mono (fun e w' hp => ?_)
    unfold fullC
    rcases hp with ⟨h1, h2, h3⟩ | ⟨h1, h2, h3, h4⟩ | ⟨h1, h2, _⟩
    · rw [if_pos h1]; exact ⟨h2, h3⟩
    · rw [if_neg (by omega)]; exact ⟨h3, h4⟩
    · rcases hfull with h3 | h3
      · omega
      · exact absurd h2 h3
  obtain ⟨es, hes⟩ : ∃ es, ents S.read F = es := ⟨_, rfl⟩
  have hes2 : (dirBlks F).flatMap (entsB S.read) = es := hes
  rw [hes2] at hfi
  rw [hes] at hno hno2
  unfold DOpenPost at hop
  unfold EPut at hpu
  simp only [if_neg (show ¬ ((0 : Int) < 0 ∨ 4 ≤ (0 : Int)) by omega)] at hpu
  simp only [if_pos hmay] at hpu
  obtain ⟨V, hV⟩ : ∃ V, S.read = V := ⟨_, rfl⟩
  obtain ⟨bl, hbl⟩ : ∃ bl, dirBlks F = bl := ⟨_, rfl⟩
  obtain ⟨nd, hnd⟩ : ∃ nd, F.node = nd := ⟨_, rfl⟩
  rw [hV, hbl, hnd] at hop hfi hgr
  obtain ⟨C, hC⟩ : ∃ C, fullC q c = C := ⟨_, rfl⟩
  have hC0 : C ≠ 0 := by
    rw [← hC]
    unfold fullC
    split
    · decide
    · rcases hfull with h3 | h3
      · contradiction
      · exact h3
  rw [hC] at hgr ⊢
  obtain ⟨Q, hQ⟩ : ∃ Q : Ending → World → Prop, (fun e w' => e = .returned (.tuple #[.slice none 0 0, .int .i64 C]) ∧ Turn D w w') = Q := ⟨_, rfl⟩
  have HF : Hid (∀ W', Turn D w W' → Q (.returned (.tuple #[.slice none 0 0, .int .i64 C])) W') := fun W' hT => by
    rw [← hQ]
    exact ⟨rfl, hT⟩
  have HD := Lib.hid hD
  rw [hQ]
  obtain ⟨ga, gb, gc⟩ := g
  obtain ⟨xi, xn⟩ := x
  unfold gV pt eV at *
  dsimp only at hop hpu hfi hno hgr HF hxi ⊢
  obtain ⟨W0, hW0⟩ : ∃ W, (w.alloc (.cells #[.int .i64 ga, .int .i64 gb, .int .i64 gc] 27)).alloc (.cells #[.int .i64 xi, .string xn] 69) = W := ⟨_, rfl⟩
  have HB0 : Hid (Below w.heap.size w W0) := by rw [← hW0]; exact (bl2 _).alloc (by simp) _
  have HG0 : Hid (W0.heap[w.heap.size]? = some (.cells #[.int .i64 ga, .int .i64 gb, .int .i64 gc] 27 (0, 0))) := by rw [← hW0]; exact heapOld (bl2 _) (heapNew w _)
  have HX0 : Hid (W0.heap[w.heap.size + 1]? = some (.cells #[.int .i64 xi, .string xn] 69 (0, 0))) := by
    rw [← hW0]
    have a2 := heapNew (w.alloc (.cells #[.int .i64 ga, .int .i64 gb, .int .i64 gc] 27)) (.cells #[.int .i64 xi, .string xn] 69)
    rw [World.size_alloc] at a2
    exact a2
  have z0 := cellOf (k := 0) HG0.out rfl
  have z1 := cellOf (k := 1) HG0.out rfl
  have z2 := cellOf (k := 2) HG0.out rfl
  obtain ⟨tx, htx⟩ : ∃ t, ofL (slotL ⟨xi, xn⟩) = t := ⟨_, rfl⟩
  rw [htx, show (0 : Int) * 16 = 0 from rfl] at hpu
  have HOP := Lib.hid hop
  have HFI := Lib.hid hfi
  have HGR := Lib.hid hgr
  have HPU := Lib.hid hpu
  clear hop hfi hgr hpu
  have HNo := Lib.hid hno
  have HNo2 := Lib.hid hno2
  have hq : (xi == 0) = false := by simp [hxi]
  clear h hs hd hb hh hm hxs hno hno2 hes hes2 hV hbl hnd hQ hlast hmay hxi htx hD hv hks hq40 hqs hc hfull hC
  go_enter Tryz.func36, Tryz.ntmps36
  go_wp2_with fail
  clear z0 z1 z2 hW0
  refine (HOP.out W0 HB0.out).mono ?_
  rintro e w1 ⟨B, rfl, hda, hb1⟩
  have HB1 := Lib.hid (blN HB0.out hb1)
  have HX1 := Lib.hid (heapOld hb1 HX0.out)
  have HG1 := Lib.hid (heapOld hb1 HG0.out)
  have HDA := Lib.hid hda
  clear hda hb1
  have e0 := cellOf (k := 0) HX1.out rfl
  have e1 := cellOf (k := 1) HX1.out rfl
  go_wp2_with fail
  clear e0 e1
  refine (HPU.out w1 HB1.out).mono ?_
  rintro e w2 ⟨rfl, hb2⟩
  have HBw2 : Hid (Below w1.heap.size w1 w2) := hb2
  obtain ⟨W3, hW3⟩ : ∃ W, w2.alloc (.cells #[.int .i64 0, .string tx] 163) = W := ⟨_, rfl⟩
  have HB13 : Hid (Below w1.heap.size w1 W3) := blN hb2 (by rw [← hW3]; exact bl2 _)
  have HB3 := Lib.hid (blN HB1.out HB13.out)
  have HX3 := Lib.hid (heapOld HB13.out HX1.out)
  have e0 := cellOf (k := 0) HX3.out rfl
  have e1 := cellOf (k := 1) HX3.out rfl
  clear hb2
  have HFI2 := Lib.hid (HFI.out w1 W3 _ B HDA.out HB13.out xn)
  rw [HNo.out] at HFI2
  unfold DFindPost placeV at HFI2
  dsimp only [Option.isSome] at HFI2
  go_wp2_with fail
  clear e0 e1 hW3
  refine HFI2.out.mono ?_
  rintro e w4 ⟨rfl, hb4⟩
  have HB14 : Hid (Below w1.heap.size w1 (w4.alloc (.cells #[.int .i64 0, .int .i64 0, .int .i64 0] 72))) := blN HB13.out (blN hb4 (bl2 _))
  have HFI3 := Lib.hid (HFI.out w1 _ _ B HDA.out HB14.out ⟨#[]⟩)
  rw [HNo2.out] at HFI3
  unfold DFindPost placeV at HFI3
  dsimp only [Option.isSome] at HFI3
  clear hb4
  go_wp2_with fail
  refine HFI3.out.mono ?_
  rintro e w6 ⟨rfl, hb6⟩
  have HB17 : Hid (Below w1.heap.size w1 (w6.alloc (.cells #[.int .i64 0, .int .i64 0, .int .i64 0] 72))) := blN HB14.out (blN hb6 (bl2 _))
  have HB7 := Lib.hid (blN HB1.out HB17.out)
  have hg7 := heapOld HB17.out HG1.out
  have z0 := cellOf (k := 0) hg7 rfl
  have z1 := cellOf (k := 1) hg7 rfl
  have z2 := cellOf (k := 2) hg7 rfl
  have hz7 := heapNew w6 (.cells #[.int .i64 0, .int .i64 0, .int .i64 0] 72)
  have HZ7 := Lib.hid hz7
  have HGR2 := Lib.hid (HGR.out w1 (w6.alloc (.cells #[.int .i64 0, .int .i64 0, .int .i64 0] 72)) B _ HB7.out HB17.out HDA.out HB0.out.size)
  have HSz : Hid (w.heap.size ≤ w6.heap.size) := by
    have h1 := HB1.out.size
    have h2 := (blN HB14.out hb6).size
    show _ ≤ _
    omega
  clear hb6 hg7 hz7
  go_wp2_with fail
  clear z0 z1 z2
  refine HGR2.out.mono ?_
  rintro e w8 ⟨rfl, hT8⟩
  have hnd : ¬ D w6.heap.size := fun hk => by have h1 := HD.out _ hk; have h2 := HSz.out; omega
  have HZ8 := Lib.hid (hT8.heap HZ7.out hnd)
  have y1 := cellOf (k := 1) HZ8.out rfl
  have f1 : w8.frozen? ⟨w6.heap.size, 1, none⟩ = false := freeOf HZ8.out
  have HE := Lib.hid (HF.out (w8.setCell ⟨w6.heap.size, 1, none⟩ (.int .i64 0)) (((Turn.of_below (K := D) HB7.out).trans hT8 (fun _ _ h => h) (fun _ _ h => h)).trans (K := D) (setCell_turn (b := w6.heap.size) (k := 1)) (fun _ _ h => h) (fun j hj e => by have h2 := HSz.out; omega)))
  have hc1 : (C != 0) = true := by simp [hC0]
  have hc2 : (C == 0) = false := by simp [hC0]
  clear hT8 hnd
  go_wp2
  first | exact HE.out | (go_ret2; exact HE.out)
end
end Go.Proofs.YtaphcmcimoloiaaGreatDoor
namespace Go.Proofs.YtaphcmcimoloiaaGreatDoor
open Go Go.RowKit Txt Sp

def gFull (b : Nat) : Sp.Geom := ⟨1, 1, b⟩
def nmF (j : Nat) : ByteArray := ofL [UInt8.ofNat (65 + j)]
def moreB : ByteArray := ⟨#[109, 111, 114, 101]⟩
theorem gFull_ok {b : Nat} (h1 : 1 ≤ b) (h8 : b ≤ 8) : (gFull b).ok := by
  have h : ∀ j : Fin 8, (gFull (j.1 + 1)).ok := by decide
  obtain ⟨k, rfl⟩ : ∃ k, b = k + 1 := ⟨b - 1, by omega⟩
  exact h ⟨k, by omega⟩
theorem nmF_inj {i j : Nat} (hi : i < 32) (hj : j < 32) (h : nmF i = nmF j) : i = j := by
  have h2 : ∀ a b : Fin 32, (nmF a.1).data.toList = (nmF b.1).data.toList → a = b := by decide
  exact congrArg Fin.val (h2 ⟨i, hi⟩ ⟨j, hj⟩ (by rw [h]))
theorem nmF_may {i : Nat} (hi : i < 32) : (⟨1, nmF i⟩ : Sp.Entry).may := by
  have h2 : ∀ a : Fin 32, (⟨1, nmF a.1⟩ : Sp.Entry).may := by decide
  exact h2 ⟨i, hi⟩
theorem nmF_more (i : Nat) : moreB ≠ nmF i := fun h => by
  have := congrArg ByteArray.size h
  unfold nmF at this
  rw [ofL_size] at this
  exact absurd (show (4 : Nat) = 1 from this) (by decide)
theorem nmF_size (i : Nat) : (nmF i).size = 1 := by unfold nmF; rw [ofL_size]; rfl
def FullI (b : Nat) (S : Sp.Side) (k : Nat) : Prop := ∃ F Y r q, Dir (gFull b) 1 S F [1] Y r q ∧ r ≤ 5 * k ∧ Y.length = q ∧ k ≤ 4 * q ∧ 4 * q < k + 4 ∧ (pairsE (ents S.read F)).length = k ∧ ∀ n, n ∈ (pairsE (ents S.read F)).map Prod.fst ↔ ∃ j, j < k ∧ n = nmF j
def FullJ (b : Nat) (S : Sp.Side) : Prop := ∃ F Y r q, Dir (gFull b) 1 S F [1] Y r q ∧ r ≤ 161 ∧ q = b ∧ (pairsE (ents S.read F)).length + 1 = 4 * b ∧ moreB ∉ (pairsE (ents S.read F)).map Prod.fst
def FullE (b : Nat) (S : Sp.Side) : Prop := ∃ F Y r q, Dir (gFull b) 1 S F [1] Y r q ∧ (pairsE (ents S.read F)).length = 4 * b
theorem full_start {b : Nat} (h1 : 1 ≤ b) (h8 : b ≤ 8) : FullI b (freshSide (gFull b) 0 0) 0 := by
  have hd := fresh_dir (g := gFull b) (node := 0) (epoch := 0) (gFull_ok h1 h8)
  have hm := hd.most
  have h0 : pairsE (ents (freshSide (gFull b) 0 0).read rootF) = [] := List.eq_nil_of_length_eq_zero (by omega)
  refine ⟨rootF, [], 0, 0, hd, Nat.le_refl _, rfl, Nat.le_refl _, by omega, by rw [h0]; rfl, fun n => ?_⟩
  rw [h0]
  exact ⟨fun h => absurd h (by simp), fun ⟨j, hj, _⟩ => absurd hj (by omega)⟩
section
variable {w wr : World} {base B Bd : Nat} {D : Nat → Prop} {S : Sp.Side} {k b : Nat}
theorem full_add (hM : DMem w base B Bd (gFull b) S D wr) (hm : MaxOk w) (h1 : 1 ≤ b) (h8 : b ≤ 8) (h : FullI b S k) (hk : k < 4 * b) (vk : Value) (hv : ∀ W, Turn D wr W → Ints W vk [0]) :
    Calls Tryz.prog 36 #[pt B, gV (gFull b), .int .i64 1, eV ⟨1, nmF k⟩, vk, .slice none 0 0] wr fun e w' => ∃ v, e = .returned (.tuple #[v, .int .i64 0]) ∧ ∃ S' D', DMem w base B Bd (gFull b) S' D' w' ∧ FullI b S' (k + 1) := by
  obtain ⟨F, Y, r, q, hd, hr, hy, hq1, hq2, hp, hn⟩ := h
  have hx := nmF_may (i := k) (by omega)
  refine (add_law hM.side hM.lt hd (gFull_ok h1 h8) (by decide) (by show (1 : Int) ≤ 1 * 1; decide) (by omega) (hM.max hm) (hM.maxT hm) ⟨1, nmF k⟩ (by show (nmF k).size ≤ _; rw [nmF_size]; decide) vk [0] hv (by intro k hk; rw [List.mem_singleton] at hk; subst hk; exact ⟨by decide, by show (0 : Int) < 1; decide⟩) (by decide) (fun he => ⟨by omega, by show _ < 1 * (b : Int).toNat; omega⟩)).mono ?_
  rintro e w' ⟨v, c, rfl, S', F', Y', r', q', hs, hd', hr', h⟩
  rcases h with ⟨-, hno, -⟩ | ⟨-, -, -, hin, -⟩ | ⟨rfl, -, -, -, hpm, L, -, h⟩
  · exact absurd ⟨hx, show (1 : Int) ≠ 0 by decide⟩ hno
  · obtain ⟨j, hj, e⟩ := (hn _).1 hin
    exact absurd (nmF_inj (by omega) (by omega) e) (by omega)
  · refine ⟨v, rfl, S', _, hM.to hs, F', Y', r', q', hd', by omega, ?_, ?_, ?_, ?_, fun n => ?_⟩
    · rcases h with ⟨rfl, rfl, -⟩ | ⟨rfl, h2, -⟩ <;> omega
    · rcases h with ⟨rfl, rfl, -, h4⟩ | ⟨rfl, h2, -, h4, -⟩ <;> omega
    · rcases h with ⟨rfl, rfl, -, h4⟩ | ⟨rfl, h2, -, h4, -⟩ <;> omega
    · rw [hpm.length_eq, List.length_cons, hp]
    · rw [(hpm.map Prod.fst).mem_iff, List.map_cons, List.mem_cons, hn]
      constructor
      · rintro (rfl | ⟨j, hj, rfl⟩)
        · exact ⟨k, by omega, rfl⟩
        · exact ⟨j, by omega, rfl⟩
      · rintro ⟨j, hj, rfl⟩
        by_cases e : j = k
        · exact Or.inl (by rw [e])
        · exact Or.inr ⟨j, by omega, rfl⟩
theorem full_fork (hM : DMem w base B Bd (gFull b) S D wr) (h : FullI b S (4 * b)) (h8 : b ≤ 8) :
    Calls Tryz.prog 39 #[pt B] wr fun e w' => ∃ B' D', e = .returned (pt B') ∧ SideAt w' wr.heap.size B' Bd S D' ∧ DMem w base B Bd (gFull b) S D w' ∧ ∀ j, D' j → wr.heap.size ≤ j ∧ j < w'.heap.size := by
  obtain ⟨F, Y, r, q, hd, hr, hy, hq1, hq2, hp, hn⟩ := h
  refine (softFork_any hM.side (by have := hd.bm.held.few; omega)).mono ?_
  rintro e w' ⟨B', D', rfl, hs, hb, hl⟩
  exact ⟨B', D', rfl, hs, hM.below hb, hl⟩
theorem full_more {w0 : World} {B' : Nat} {D' : Nat → Prop} (hM : DMem w base B Bd (gFull b) S D wr) (hm : MaxOk w) (h1 : 1 ≤ b) (h8 : b ≤ 8) (h : FullI b S (4 * b)) (hs : SideAt wr w0.heap.size B' Bd S D') (hl : ∀ j, D' j → w0.heap.size ≤ j ∧ j < wr.heap.size) (hD : ∀ j, D j → j < w0.heap.size) (hw0 : w.heap.size < w0.heap.size) (hbs : base ≤ w0.heap.size) (vk : Value) (hv : ∀ W, Turn D' wr W → Ints W vk [0]) :
    Calls Tryz.prog 36 #[pt B', gV (gFull b), .int .i64 1, eV ⟨1, moreB⟩, vk, .slice none 0 0] wr fun e w' => e = .returned (.tuple #[.slice none 0 0, .int .i64 109]) ∧ DMem w base B Bd (gFull b) S D w' := by
  obtain ⟨F, Y, r, q, hd, hr, hy, hq1, hq2, hp, hn⟩ := h
  have hg := gFull_ok h1 h8
  have hq : q = b := by omega
  have hks : ∀ k ∈ ([0] : List Int), 0 ≤ k ∧ k < (gFull b).groups := fun k hk => by
    rw [List.mem_singleton] at hk
    subst hk
    exact ⟨by decide, by show (0 : Int) < 1; decide⟩
  have hc : (⟨S, F, []⟩ : BSt).writeC (gFull b) 1 [0] 1 (64 * q) Sp.blank.data.toList = 109 := full8 hd hg (by omega) hks (all_taken hd hg rfl (by rw [hy, hq]; rfl)) (by omega)
  have hf1 : findE (ents S.read F) moreB = none := by
    rcases hd.find (n := moreB) (by decide) with ⟨y, _, _, _, _, hyp⟩ | ⟨hf, _⟩
    · obtain ⟨j, -, e⟩ := (hn moreB).1 (List.mem_map.2 ⟨_, hyp, rfl⟩)
      exact absurd e (nmF_more j)
    · exact hf
  have hf2 : findE (ents S.read F) ⟨#[]⟩ = none := by
    cases hfree : findE (ents S.read F) ⟨#[]⟩ with
    | none => rfl
    | some p =>
      obtain ⟨hpm, hp0, -⟩ := hd.free hfree
      obtain ⟨l1, l2, e1⟩ := List.append_of_mem hpm
      have hlen := hd.length
      have hle : ∀ l : List Ent, (pairsE l).length ≤ l.length := fun l => by
        unfold pairsE
        rw [List.length_map]
        exact List.length_filter_le _ _
      rw [e1] at hlen hp
      rw [pairs_append, pairs_cons_free hp0, List.length_append] at hp
      rw [List.length_append, List.length_cons] at hlen
      have := hle l1
      have := hle l2
      omega
  refine (dirAddFull_any hs (hd.stands hg (by decide) (by show (1 : Int) ≤ 1 * 1; decide)) hd.ok (hd.blkPos hg) (hd.hasB hg) (hM.max hm) ⟨1, moreB⟩ (by decide) (fun j hj => (hl j hj).2) (by have := hd.bm.held.last; omega) (by decide) (by decide) hf1 hf2 vk [0] hv hks q (by omega) hd.size 109 hc (Or.inr (by decide))).mono ?_
  rintro e w' ⟨rfl, hT⟩
  have hfc : fullC q 109 = 109 := by unfold fullC; split <;> rfl
  have hsz := hT.size
  refine ⟨by rw [hfc], hM.side.turn hT (fun j hj hj' => ?_) (fun j hj => ?_), fun j hj => ?_, hM.low, hT.heap hM.box (fun hk => ?_), hM.bel.trans (hT.below (fun j hj => ?_) (Nat.le_of_lt hM.lo))⟩
  · have := hD j hj; have := (hl j hj').1; omega
  · have := (hl j hj).1; omega
  · have := hM.lt j hj; omega
  · have := (hl _ hk).1; omega
  · have := (hl _ hj).1; omega
theorem full_load (h1 : 1 ≤ b) (h8 : b ≤ 8) (h : FullI b S (4 * b)) : ∃ n : Sp.Inode, n.size = ((64 * b : Nat) : Int) ∧ ∀ (wr : World) (D : Nat → Prop), DMem w base B Bd (gFull b) S D wr →
    Calls Tryz.prog 30 #[pt B, gV (gFull b), .int .i64 1] wr fun e w' => e = .returned (.tuple #[.agg (nA n), .int .i64 0]) ∧ Below wr.heap.size wr w' := by
  obtain ⟨F, Y, r, q, hd, hr, hy, hq1, hq2, hp, hn⟩ := h
  have hq : q = b := by omega
  refine ⟨F.node, by rw [← hq]; exact hd.size, fun wr D hM => ?_⟩
  exact (bLoad_any hM.side (hd.stands (gFull_ok h1 h8) (by decide) (by show (1 : Int) ≤ 1 * 1; decide))).mono fun e w' h => h
theorem full_remove (hM : DMem w base B Bd (gFull b) S D wr) (hm : MaxOk w) (h1 : 1 ≤ b) (h8 : b ≤ 8) (h : FullI b S (4 * b)) (j : Nat) (hj : j < 4 * b) :
    Calls Tryz.prog 35 #[pt B, gV (gFull b), .int .i64 1, .string (nmF j), .slice none 0 0] wr fun e w' => ∃ a, e = .returned (.tuple #[.int .i64 a, .int .i64 0]) ∧ ∃ S' D', DMem w base B Bd (gFull b) S' D' w' ∧ FullJ b S' := by
  obtain ⟨F, Y, r, q, hd, hr, hy, hq1, hq2, hp, hn⟩ := h
  have hq : q = b := by omega
  refine (remove_law hM.side hd (gFull_ok h1 h8) (by decide) (by show (1 : Int) ≤ 1 * 1; decide) (by omega) (hM.max hm) (nmF j) (by rw [nmF_size]; decide)).mono ?_
  rintro e w' ⟨a, c, rfl, S', F', r', hs, hd', hr', h⟩
  rcases h with ⟨rfl, i, hpm⟩ | ⟨-, hno, -⟩
  · refine ⟨a, rfl, S', _, hM.to hs, F', Y, r', q, hd', by omega, hq, ?_, fun hin => ?_⟩
    · have := hpm.length_eq
      rw [List.length_cons, hp] at this
      exact this.symm
    · have h2 : moreB ∈ (pairsE (ents S.read F)).map Prod.fst := (hpm.map Prod.fst).mem_iff.2 (List.mem_cons_of_mem _ hin)
      obtain ⟨j, -, e⟩ := (hn _).1 h2
      exact nmF_more j e
  · exact absurd ((hn _).2 ⟨j, hj, rfl⟩) hno
theorem full_last (hM : DMem w base B Bd (gFull b) S D wr) (hm : MaxOk w) (h1 : 1 ≤ b) (h8 : b ≤ 8) (h : FullJ b S) (vk : Value) (hv : ∀ W, Turn D wr W → Ints W vk [0]) :
    Calls Tryz.prog 36 #[pt B, gV (gFull b), .int .i64 1, eV ⟨1, moreB⟩, vk, .slice none 0 0] wr fun e w' => ∃ v L, e = .returned (.tuple #[v, .int .i64 0]) ∧ OwnR 3 1 intC wr.heap.size w' v L ∧ L.length = 1 ∧ ∃ S' D', DMem w base B Bd (gFull b) S' D' w' ∧ FullE b S' := by
  obtain ⟨F, Y, r, q, hd, hr, hq, hp, hn⟩ := h
  refine (add_law hM.side hM.lt hd (gFull_ok h1 h8) (by decide) (by show (1 : Int) ≤ 1 * 1; decide) (by omega) (hM.max hm) (hM.maxT hm) ⟨1, moreB⟩ (by decide) vk [0] hv (by intro k hk; rw [List.mem_singleton] at hk; subst hk; exact ⟨by decide, by show (0 : Int) < 1; decide⟩) (by decide) (fun he => by omega)).mono ?_
  rintro e w' ⟨v, c, rfl, S', F', Y', r', q', hs, hd', hr', h⟩
  rcases h with ⟨-, hno, -⟩ | ⟨-, -, -, hin, -⟩ | ⟨rfl, -, -, -, hpm, L, hL, h⟩
  · exact absurd (by decide) hno
  · exact absurd hin hn
  · refine ⟨v, L, rfl, hL, ?_, S', _, hM.to hs, F', Y', r', q', hd', ?_⟩
    · rcases h with ⟨-, -, h, -⟩ | ⟨-, -, -, h, -⟩
      · exact h
      · omega
    · rw [hpm.length_eq, List.length_cons, hp]
theorem full_names (hM : DMem w base B Bd (gFull b) S D wr) (hm : MaxOk w) (h1 : 1 ≤ b) (h8 : b ≤ 8) (h : FullE b S) :
    Calls Tryz.prog 37 #[pt B, gV (gFull b), .int .i64 1] wr fun e w' => ∃ v N, e = .returned (.tuple #[v, .int .i64 0]) ∧ OwnR 9 1 strC wr.heap.size w' v N ∧ Below wr.heap.size wr w' ∧ N.length = 4 * b := by
  obtain ⟨F, Y, r, q, hd, hp⟩ := h
  have hg := gFull_ok h1 h8
  refine (dirNames_any hM.side (hd.stands hg (by decide) (by show (1 : Int) ≤ 1 * 1; decide)) hd.ok (hd.blkPos hg) (hd.hasB hg) (hM.max hm)).mono ?_
  rintro e w' ⟨v, rfl, hv, hb⟩
  refine ⟨v, _, rfl, hv, hb, ?_⟩
  rw [(sortL_perm _).length_eq, ← hp]
  unfold namesE pairsE
  rw [List.length_map, List.length_map]
end
end Go.Proofs.YtaphcmcimoloiaaGreatDoor
