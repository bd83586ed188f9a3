/-
  The tree's walks: copied of a directory, and of anything.
-/
import Derived.Test.YtcgpmnlondnbhaaDoorTreeDeep
import Derived.Deep.RegionHeld3
namespace Go.Proofs.YtcgpmnlondnbhaaDoor
open Go Go.RowKit Txt Sp

section
variable {B Dm : Nat} {t : Sp.Tree} {φ μ : Nat → Nat}

/-- Ahead of the first round. -/
theorem copy_start {w W w0 : World} (hok : t.Ok) {p : List ByteArray} {i : Nat} (hp : t.idOf p = some i) (hd : t.isDir i = true) {S : List Nat} {ψ ν : Nat → Nat} (hD : PMapAt w Dm (pairs φ ψ S)) (hS : ∀ j ∈ S, t.has j) (hi : i ∉ S)
    (hst : Started w t φ Dm S ψ i W) {l : List (ByteArray × Nat)} {cnt : Nat} (hrg : Ranging w0 (μ i) (w.heap.size + 2) l (fun s => (getM l s).isSome) cnt)
    (hg : ((W.alloc (.map #[] 0)).setCell ⟨w.heap.size, 2, none⟩ (.map (some (w.heap.size + 1)))).grownBy w0 none) (hz : w0.heap.size = w.heap.size + 3) :
    CopyRel w t φ μ Dm p i l S ψ ν w0 (fun _ => false) cnt (S ++ [i]) (upd ψ i w.heap.size) (upd ν i (w.heap.size + 1)) [] := by
  have hDw := hD.lt
  have hth := there_idOf hok hp
  rw [hd] at hth
  have hem := hok.empty _ _ hth
  have hb := (Below.refl W.heap.size W).alloc (Nat.le_refl _) (.map #[] 0)
  have hsz := hst.size
  have hz1 : ((W.alloc (.map #[] 0)).setCell ⟨w.heap.size, 2, none⟩ (.map (some (w.heap.size + 1)))).heap.size = w.heap.size + 2 := by
    rw [size_setCell]
    show (W.heap.push _).size = _
    rw [Array.size_push, hsz]
  have far : ∀ k, k < W.heap.size → k ≠ w.heap.size → w0.heap[k]? = W.heap[k]? := fun k hk hn => by
    rw [hg.block k (by rw [hz1]; omega) (by simp), heap_setCell_ne _ hn]
    exact hb.block k hk
  have hthing : w0.heap[w.heap.size]? = some (thingO (ofL []) (t.links i) (some (w.heap.size + 1))) := by
    have h1 := heap_below hb _ _ hst.thing
    rw [hem] at h1
    rw [hg.block _ (by rw [hz1]; omega) (by simp), heap_setCell_at h1]
    rfl
  have hown : w0.heap[w.heap.size + 1]? = some (.map #[] 0) := by
    rw [hg.block _ (by rw [hz1]; omega) (by simp), heap_setCell_ne _ (by omega)]
    exact alloc_at hsz _
  have hne : ∀ j ∈ S, j ≠ i := fun j hj e => hi (by rw [← e]; exact hj)
  refine ⟨hrg.congr (fun s => by simp), hst.map.same (fun o ho => by rw [far _ (by omega) (by omega)]; exact ho), hthing, ⟨_, hown, IsMap.new⟩, fun s => rfl, fun j hj => ⟨upd_ne (hne j hj), upd_ne (hne j hj)⟩, ⟨by simp, upd_at _ _ _, upd_at _ _ _⟩, ?_, ?_, by omega⟩
  · refine ⟨fun j hj => ?_, fun _ h => h, fun _ h1 h2 => absurd h1 h2, fun _ h1 h2 => absurd h1 h2, fun _ h1 h2 => absurd h1 h2, fun _ h1 _ _ h2 => absurd h1 h2, fun _ h1 _ _ h2 => absurd h1 h2, fun q j hq _ => ?_⟩
    · rcases List.mem_append.1 hj with h | h
      · exact hS j h
      · rw [List.mem_singleton.1 h]; exact has_idOf hok hp
    · obtain ⟨s, hs, _⟩ := hq
      cases hs
  · refine ⟨hg.os.trans hst.turn.os, hg.tape.trans hst.turn.tape, hg.output.trans hst.turn.output, by omega, fun k hk hn => ?_⟩
    rw [far k (by omega) (by omega)]
    exact hst.turn.block k hk hn

/-- No directory below the next name has been copied. -/
theorem CopyRel.fresh {w wr : World} {p : List ByteArray} {i : Nat} {l lk : List (ByteArray × Nat)} {S S2 : List Nat} {ψ ν ψ2 ν2 : Nat → Nat} {dn : ByteArray → Bool} {cnt : Nat} (hok : t.Ok) (hp : t.idOf p = some i)
    (h : CopyRel w t φ μ Dm p i l S ψ ν wr dn cnt S2 ψ2 ν2 lk) (hfr : ∀ q j, p <+: q → t.idOf q = some j → t.isDir j = true → j ∉ S) {s : ByteArray} (hs : dn s = false) : ∀ q j, p ++ [s] <+: q → t.idOf q = some j → t.isDir j = true → j ∉ S2 := by
  intro q j hq hj hd hm
  by_cases h1 : j ∈ S
  · exact hfr q j ((List.prefix_append p [s]).trans hq) hj hd h1
  by_cases h2 : j = i
  · subst h2
    have := dir_path hok hj hp hd
    subst this
    have := hq.length_le
    rw [List.length_append, List.length_singleton] at this
    omega
  obtain ⟨q', ⟨s', hs', hq'⟩, hj'⟩ := h.news.at' j hm (fun hc => (List.mem_append.1 hc).elim h1 (fun h3 => h2 (List.mem_singleton.1 h3)))
  have := dir_path hok hj hj' hd
  subst this
  obtain ⟨r, hr⟩ := hq
  obtain ⟨r', hr'⟩ := hq'
  rw [← hr] at hr'
  rw [List.append_assoc, List.append_assoc] at hr'
  have := List.append_cancel_left hr'
  cases this
  rw [hs] at hs'
  cases hs'

set_option maxHeartbeats 4000000
set_option maxRecDepth 20000 in
theorem copied_any (hok : t.Ok) (hfew : t.names.length ≤ 1000000) (hDm : ∀ k, Rep.dom B t φ μ k → k ≠ Dm) : ∀ (n : Nat) (p : List ByteArray) (i : Nat) (w : World) (S : List Nat) (ψ ν : Nat → Nat), (belowL t p).length < n → Rep w B t φ μ → t.idOf p = some i → PMapAt w Dm (pairs φ ψ S) → (∀ j ∈ S, t.has j) →
    (∀ q j, p <+: q → t.idOf q = some j → t.isDir j = true → j ∉ S) → Calls Tryd.prog 37 #[ptr (φ i), .map (some Dm)] w (CopyPost w t φ Dm S ψ ν p i) := by
  intro n
  induction n with
  | zero => intro p i w S ψ ν hn; omega
  | succ n ih =>
    intro p i w S ψ ν hn hR hp hD hS hfr
    cases hd : t.isDir i with
    | false =>
      by_cases hi : i ∈ S
      · exact copied_seen hR hok hp hD hS hi hd
      · exact copied_file hR hok hp hD hS hi hd hDm
    | true =>
      have hi : i ∉ S := hfr p i (List.prefix_refl _) hp hd
      have hih := has_idOf hok hp
      have hlk := run_lookup_thing hD (hR.isThing hok hih) (pairs_things hR hok hS ψ)
      rw [getP_pairs hR.inj hS hih, if_neg hi] at hlk
      have hth := there_idOf hok hp
      rw [hd] at hth
      have hem := hok.empty _ _ hth
      obtain ⟨hblk, l, hl, hget⟩ := hR.dir i p hp hd
      have hkeys := hR.keys hok hp hd hl
      have hnames : ∀ x ∈ l, nameB x.1 = true := fun x hx => by
        have h1 : x.1 ∈ t.kidsL p := hkeys.mem_iff.1 (List.mem_map.2 ⟨x, hx, rfl⟩)
        obtain ⟨j, hj⟩ := kidsL_mem.1 h1
        exact hok.good _ _ hj _ (by simp)
      have hml : ∀ x ∈ l, x.1.size ≤ maxLen := fun x hx => Nat.le_trans (nameB_size (hnames x hx)) (by decide)
      have hll : l.length ≤ 1000000 := by
        have := hkeys.length_eq
        rw [List.length_map] at this
        have h2 := kids_few t p
        omega
      have c0 : w.cell? ⟨φ i, 0, none⟩ = some (.string (ofL [])) := cell_of_heap hblk rfl
      have c1 : w.cell? ⟨φ i, 1, none⟩ = some (.int .i64 (t.links i)) := cell_of_heap hblk rfl
      obtain ⟨o', hrun, hst⟩ := started hR hok hih hD hS hi (o := thingO (ofL []) (t.links i) none) (by rw [hem])
      obtain ⟨W, hW⟩ : ∃ W, ChangeMaps.setBlock (w.alloc (thingO (ofL []) (t.links i) none)).drew Dm o' = W := ⟨_, rfl⟩
      rw [hW] at hrun hst
      have hblkW := hst.turn.heap hblk (hDm _ (dom_thing hih))
      have hlt := hR.lt_thing hok hih
      have hDlt := hD.lt
      have hmlt := hl.lt
      have hmD : μ i ≠ Dm := hDm _ (dom_map hih hd)
      have hmW : MapAt W (μ i) l := hl.same (fun o ho => hst.turn.heap ho hmD)
      have c2 : W.cell? ⟨φ i, 2, none⟩ = some (.map (some (μ i))) := cell_of_heap hblkW rfl
      have g2 : W.cell? ⟨w.heap.size, 2, none⟩ = some (.map none) := cell_of_heap hst.thing rfl
      have g3 : W.frozen? ⟨w.heap.size, 2, none⟩ = false := free_of_heap hst.thing
      have hsz := hst.size
      obtain ⟨W1, hW1⟩ : ∃ W1, (W.alloc (.map #[] 0)).setCell ⟨w.heap.size, 2, none⟩ (.map (some (w.heap.size + 1))) = W1 := ⟨_, rfl⟩
      have hb := (Below.refl W.heap.size W).alloc (Nat.le_refl _) (.map #[] 0)
      have keepW : ∀ k o, k ≠ w.heap.size → W.heap[k]? = some o → W1.heap[k]? = some o := fun k o hk ho => by
        rw [← hW1, heap_setCell_ne _ hk]
        exact heap_below hb _ _ ho
      have c3 : W1.cell? ⟨φ i, 2, none⟩ = some (.map (some (μ i))) := cell_of_heap (keepW _ _ (by omega) hblkW) rfl
      have hl1 : MapAt W1 (μ i) l := hmW.same (fun o ho => keepW _ _ (by omega) ho)
      have hz1 : W1.heap.size = w.heap.size + 2 := by
        rw [← hW1, size_setCell]
        show (W.heap.push _).size = _
        rw [Array.size_push, hsz]
      have HST := Lib.hid (fun (w0 : World) (cnt : Nat) => copy_start (μ := μ) (ν := ν) (w0 := w0) (l := l) (cnt := cnt) hok hp hd hD hS hi hst)
      rw [hW1] at HST
      have HR := Lib.hid hR
      have HL := Lib.hid hl
      have HG := Lib.hid hget
      have HP := Lib.hid hp
      have HIH := Lib.hid ih
      have HOK := Lib.hid hok
      have HMlt := Lib.hid hmlt
      have HFr := Lib.hid hfr
      have HDm := Lib.hid hDm
      have HDlt := Lib.hid hDlt
      have HmD := Lib.hid hmD
      have HDir := Lib.hid hd
      have HI := Lib.hid hi
      have HN := Lib.hid hn
      have HZ1 := Lib.hid hz1
      have p2 := neq_none
      have m2 := fun (r : Option Nat) (w : World) => run_neq_map_nil (P := Tryd.prog) w 64 _ _ r ht_map
      have hmm := @run_makeMap Tryd.prog
      clear hR hok hp hD hS hi hd hDm hih hth hem hblk hl hget hkeys hnames hst hW hblkW hDlt hmlt hmD hmW hb keepW hfr ih hn hz1 hlt
      unfold thingO at hrun
      simp only [ptrO] at hlk
      unfold ptr at hlk hrun ⊢
      go_enter Tryd.func37, Tryd.ntmps37
      go_wp2
      go_still_tail 9, (by kernel_rfl)
      change wpList _ _ _ _ _ w.drew
      go_wp2_with (first
        | (at_range; refine wpList_range_dir rfl _ rfl rfl hl1 hml hll ?_; intro w0 cnt0 hrg0 hg0 hs0')
        | go_in)
      rw [HZ1.out] at hrg0 hs0' ⊢
      have HR0 := Lib.hid (HST.out w0 cnt0 hrg0 hg0 hs0')
      clear hrg0 hg0 hs0' HST hl1 c0 c1 c2 c3 g2 g3 hrun hlk hsz hW1 HZ1 hmm m2 p2
      go_frame
      go_loopw [] (fun wr => ∃ (dn : ByteArray → Bool) (cnt : Nat) (S2 : List Nat) (ψ2 ν2 : Nat → Nat) (lk : List (ByteArray × Nat)), Hid (CopyRel w t φ μ Dm p i l S ψ ν wr dn cnt S2 ψ2 ν2 lk)) (fun wr => wr.rangeLeft (μ i) (w.heap.size + 2))
      case atStart => exact ⟨_, _, _, _, _, _, HR0⟩
      case round =>
        obtain ⟨dn, cnt, S2, ψ2, ν2, lk, HRel⟩ := hrel
        have hlr : MapAt wr (μ i) l := HL.out.same (fun o ho => HRel.out.turn.heap ho HmD.out)
        go_wp2_with (first
          | (at_next; refine wpList_next_dir rfl _ rfl rfl hlr hml hll HRel.out.rg ?_ ?_)
          | go_in)
        · intro hdone
          clear hlr
          go_wp2
          go_ret
          refine HRel.out.done HOK.out HP.out HDir.out HI.out (fun s hs => ?_)
          have h1 := hdone s
          rw [HG.out s, Option.isSome_map] at h1
          simpa using h1 hs
        · intro s c w1 cnt1 _ hsd hgc hrg1 hlt1 hg1 hs1 hen
          obtain ⟨j, hj, hjc⟩ : ∃ j, t.find (p ++ [s]) = some j ∧ φ j = c := by
            rw [HG.out s] at hgc
            exact Option.map_eq_some_iff.1 hgc
          subst hjc
          have hrec := HRel.out
          have hpast := hrec.past
          have hDl := HDlt.out
          have hT1 : Turn (fun k => k = Dm) w w1 := ⟨hg1.os.trans hrec.turn.os, hg1.tape.trans hrec.turn.tape, hg1.output.trans hrec.turn.output, by omega, fun k hk hn => (hg1.block k (by omega) (by simp; omega)).trans (hrec.turn.block k hk hn)⟩
          have hR1 : Rep w1.drew B t φ μ := (HR.out.turn HOK.out hT1 HDm.out).same (fun _ _ h => h)
          have hmap1 : PMapAt w1.drew Dm (pairs φ ψ2 S2) := hrec.map.same (fun o ho => by
            show w1.heap[Dm]? = some o
            rw [hg1.block _ (by omega) (by simp; omega)]
            exact ho)
          have hbc := belowL_child HOK.out hj
          have hn := HN.out
          have hcall := HIH.out (p ++ [s]) j w1.drew S2 ψ2 ν2 (by omega) hR1 (find_idOf HOK.out hj) hmap1 hrec.news.has (hrec.fresh HOK.out HP.out HFr.out hsd)
          have th1 : w1.heap[w.heap.size]? = some (thingO (ofL []) (t.links i) (some (w.heap.size + 1))) := by
            rw [hg1.block _ (by omega) (by simp)]
            exact hrec.thing
          have own1 : MapAt w1 (w.heap.size + 1) lk := hrec.own.same (fun o ho => by
            rw [hg1.block _ (by omega) (by simp)]
            exact ho)
          have c6 : w1.cell? ⟨w.heap.size, 2, none⟩ = some (.map (some (w.heap.size + 1))) := cell_of_heap th1 rfl
          have HCall := Lib.hid hcall
          have TH1 := Lib.hid th1
          have OWN1 := Lib.hid own1
          have HDl2 : Hid (w.heap.size ≠ Dm ∧ w.heap.size + 1 ≠ Dm) := ⟨by omega, by omega⟩
          have HJ := Lib.hid hj
          have HSD := Lib.hid hsd
          have HRG := Lib.hid hrg1
          have HLT := Lib.hid hlt1
          have HG1 := Lib.hid hg1
          have HS1 := Lib.hid hs1
          clear hcall th1 own1 hT1 hR1 hmap1 hbc hn hDl hpast hrec hj hsd hrg1 hlt1 hg1 hs1 hgc hlr
          unfold ptr at HCall hen
          unfold ptr
          go_wp2
          go_region_held3 (fun w' => w'.cell? ⟨w.heap.size, 2, none⟩ = some (.map (some (w.heap.size + 1))))
            (first | exact c6 | exact cell_of_heap (hT3.out.heap TH1.out HDl2.out.1) rfl | exact cell_of_heap ((heap_setBlock_ne o2 (Nat.ne_of_lt (Nat.lt_succ_self w.heap.size))).trans (hT3.out.heap TH1.out HDl2.out.1)) rfl)
            (first | (go_at_call 37; refine HCall.out.mono ?_; rintro e w2 ⟨S3, ψ3, ν3, rfl, hmap3, hold3, hj3, hnews3, hT3⟩; replace hT3 := Lib.hid hT3; replace hmap3 := Lib.hid hmap3; replace hold3 := Lib.hid hold3; replace hnews3 := Lib.hid hnews3; clear hj3; obtain ⟨o2, hrun2, ho2⟩ := run_update_ptr (P := Tryd.prog) (w := w2) (T := 64) (K := 9) (E := 63) (m := w.heap.size + 1) (l := lk) ht_map Tryd.underlying9 (OWN1.out.same (fun o ho => hT3.out.heap ho HDl2.out.2)) s (ψ3 j); replace ho2 := Lib.hid ho2; unfold ptr at hrun2 ⊢))
          have hnew := HRel.out.step HOK.out HDlt.out HMlt.out HmD.out HJ.out HSD.out HRG.out HG1.out HS1.out hmap3.out hold3.out hnews3.out ⟨hT3.out.os, hT3.out.tape, hT3.out.output, hT3.out.size, hT3.out.block⟩ (w3 := ChangeMaps.setBlock w2 (w.heap.size + 1) o2)
            (fun o ho => by rw [heap_setBlock_ne _ (Ne.symm HDl2.out.2)]; exact ho) (fun k hk => heap_setBlock_ne _ hk) (size_setBlock _ _ _) rfl rfl rfl (heap_setBlock_at o2 (by
              have h1 := (OWN1.out.same (fun o ho => hT3.out.heap ho HDl2.out.2)).lt
              exact h1)) ho2.out
          have HNew := Lib.hid hnew
          clear hnew
          go_wp2
          go_roundw
          case rel => exact ⟨_, _, _, _, _, _, HNew⟩
          case measure => rw [HNew.out.rg.left_eq, HRel.out.rg.left_eq]; exact HLT.out
end
end Go.Proofs.YtcgpmnlondnbhaaDoor
