/-
  TreeC: TreeTell, Sorted, TreeList, TreeNew, TreeDo, TreeDoOps, TreeDoBytes, TreeDoTell.
-/
import Derived.Test.YtcgpmnlondnbhaaGreatDoorTreeB
import Derived.Test.YtcgpmnlondnbhaaGreatDoorNamesA
import Derived.Test.YtcgpmnlondnbhaaGreatDoorIter
import Derived.Test.YtcgpmnlondnbhaaGreatDoorPlainA
namespace Go.Proofs.YtcgpmnlondnbhaaGreatDoor
open Go Go.RowKit Txt Sp

/-- An answer as the program holds it. -/
def AnsV (w : World) (v : Value) (a : Sp.Ans) : Prop :=
  ∃ nv, v = .agg #[.int .i64 a.code, .int .i64 a.kind, .int .i64 a.links, .int .i64 a.size, .string a.data, nv] ∧ Texts w nv a.names
/-- Likewise, the names in a block of their own, from the block n on. -/
def AnsO (n : Nat) (w : World) (v : Value) (a : Sp.Ans) : Prop :=
  ∃ nv, v = .agg #[.int .i64 a.code, .int .i64 a.kind, .int .i64 a.links, .int .i64 a.size, .string a.data, nv] ∧ OwnTexts n w nv a.names
theorem AnsO.ans {n : Nat} {w : World} {v : Value} {a : Sp.Ans} (h : AnsO n w v a) : AnsV w v a := let ⟨nv, h1, h2⟩ := h; ⟨nv, h1, h2.texts⟩
theorem AnsV.below {w w' : World} {v : Value} {a : Sp.Ans} (h : AnsV w v a) (hb : Below w.heap.size w w') : AnsV w' v a := let ⟨nv, h1, h2⟩ := h; ⟨nv, h1, h2.below hb⟩
theorem AnsO.bare (n : Nat) (w : World) (a : Sp.Ans) (h : a.names = []) : AnsO n w (.agg #[.int .i64 a.code, .int .i64 a.kind, .int .i64 a.links, .int .i64 a.size, .string a.data, .slice none 0 0]) a :=
  ⟨_, rfl, by rw [h]; exact OwnTexts.void n w⟩

section
set_option maxHeartbeats 1000000
def TellPost (a : Sp.Ans) (w : World) (e : Ending) (w' : World) : Prop := ∃ v, e = .returned v ∧ AnsO w.heap.size w' v a ∧ Below w.heap.size w w'

theorem below_six {m n : Nat} {w w' : World} (h : Below m w w') (hn : m ≤ n) (a b c d e f : Value) :
    Below m w ((((((w'.setCell ⟨n, 0, none⟩ a).setCell ⟨n, 1, none⟩ b).setCell ⟨n, 2, none⟩ c).setCell ⟨n, 3, none⟩ d).setCell ⟨n, 4, none⟩ e).setCell ⟨n, 5, none⟩ f) :=
  (((((h.setCell hn a).setCell hn b).setCell hn c).setCell hn d).setCell hn e).setCell hn f

theorem tell_stat {w : World} {B : Nat} {t : Sp.Tree} {φ μ : Nat → Nat} (hR : Rep w B t φ μ) (hok : t.Ok) (o : Sp.Op) (ho : OpOk o) (hm : MaxOk w) (hk : ∀ q, (t.kidsL q).length ≤ 1000000) (hlinks : ∀ i, t.links i ≤ 1000000) (hl : o.kind ≠ 11) :
    Calls Tryz.prog 34 #[ptr B, opV o] w (TellPost (t.tell o) w) := by
  have m1 := fun (r : Option Nat) (w : World) => run_eql_map_nil (P := Tryz.prog) w 55 _ _ r ht_map
  have m2 := fun (r : Option Nat) (w : World) => run_neq_map_nil (P := Tryz.prog) w 55 _ _ r ht_map
  obtain ⟨kind, path, tt, off, len, data⟩ := o
  have HR := Lib.hid hR
  have HOK := Lib.hid hok
  have HK := Lib.hid hk
  have HLk := Lib.hid hlinks
  have HO := Lib.hid ho
  have hp := ho.path
  simp only at hp hl
  obtain ⟨i, c, hat⟩ : ∃ i c, t.at path = (i, c) := ⟨_, _, rfl⟩
  have HAT := Lib.hid hat
  have HBA1 := (Below.refl w.heap.size w).alloc (Nat.le_refl _) (.cells #[.int .i64 kind, .string path, .string tt, .int .i64 off, .int .i64 len, .string data] 35)
  have HBA := HBA1.alloc HBA1.size (.cells #[.int .i64 0, .int .i64 0, .int .i64 0, .int .i64 0, .string ⟨#[]⟩, .slice none 0 0] 32)
  clear HBA1
  clear hR hok hat hk ho hlinks
  unfold opV
  simp only
  by_cases h0 : c = 0
  · subst h0
    have HI : Hid (t.idOf (full path) = some i) := by
      have h := (at_ok t (path := path) (by rw [HAT.out])).2.2
      rw [HAT.out] at h
      exact h
    by_cases hk10 : kind = 10
    · subst hk10
      cases hd : t.isDir i with
      | true =>
        have HM : Hid (t.tell ⟨10, path, tt, off, len, data⟩ = { kind := 2, links := 1, size := (t.kidsL (full path)).length }) := by
          show t.tell ⟨10, path, tt, off, len, data⟩ = _
          unfold Sp.Tree.tell; rw [HAT.out]; simp [hd]
        have HD := Lib.hid hd
        clear hd
        have HRA := Lib.hid (HR.out.below HBA)
        have hmA := hm.below HBA
        have HBA' := Lib.hid HBA
        clear HBA
        go_enter Tryz.func34, Tryz.ntmps34
        go_wp2_with fail
        refine (tat_any HRA.out HOK.out path hmA hp).mono ?_
        rintro e w1 ⟨rfl, hb⟩
        rw [HAT.out, thingV_ok rfl]
        unfold ptr
        obtain ⟨gc, gf⟩ := bcell hb
        have hz : w.heap.size + 1 < w1.heap.size := by have := hb.size; simp at this; omega
        have HB := Lib.hid (below_next HBA'.out hb)
        have HR1 := Lib.hid (HR.out.below HB.out)
        clear hb
        have c2 := HR1.out.dirCell HI.out HD.out
        obtain ⟨_, lj, hlj, _⟩ := HR1.out.dir i _ HI.out HD.out
        have HLen := Lib.hid (HR1.out.len HOK.out HI.out HD.out hlj)
        have hlen := run_len_ptr (P := Tryz.prog) (ty := 3) len0 hlj
        obtain ⟨n, hn⟩ : ∃ n, lj.length = n := ⟨_, rfl⟩
        have HN := Lib.hid hn
        have hnb : n ≤ 1000000 := by rw [← hn, HLen.out]; exact HK.out _
        rw [hn] at hlen
        clear hn hlj
        go_wp2
        refine bodyPost_ret (v := .agg #[.int .i64 0, .int .i64 2, .int .i64 1, .int .i64 (n : Int), .string ⟨#[]⟩, .slice none 0 0]) (by simp [results, Tryz.results34, go_sem, gc]) rfl ?_
        rw [HM.out, ← HLen.out, HN.out]
        exact ⟨_, rfl, ⟨_, rfl, OwnTexts.void _ _⟩, below_six HB.out (Nat.le_succ _) _ _ _ _ _ _⟩
      | false =>
        have HM : Hid (t.tell ⟨10, path, tt, off, len, data⟩ = { kind := 1, links := t.links i, size := (t.dataOf i).size }) := by
          show t.tell ⟨10, path, tt, off, len, data⟩ = _
          unfold Sp.Tree.tell; rw [HAT.out]; simp [hd]
        have HD := Lib.hid hd
        clear hd
        have hth := there_idOf HOK.out HI.out
        rw [HD.out] at hth
        have HTh := Lib.hid hth
        have hsm := HOK.out.small _ _ hth
        clear hth
        obtain ⟨d, hdd⟩ : ∃ d, t.dataOf i = d := ⟨_, rfl⟩
        have HDD := Lib.hid hdd
        rw [hdd] at hsm
        obtain ⟨n, hn⟩ : ∃ n, t.links i = n := ⟨_, rfl⟩
        have HN := Lib.hid hn
        have hn1 : n ≤ 1000000 := by rw [← hn]; exact HLk.out i
        clear hdd hn
        have HRA := Lib.hid (HR.out.below HBA)
        have hmA := hm.below HBA
        have HBA' := Lib.hid HBA
        clear HBA
        go_enter Tryz.func34, Tryz.ntmps34
        go_wp2_with fail
        refine (tat_any HRA.out HOK.out path hmA hp).mono ?_
        rintro e w1 ⟨rfl, hb⟩
        rw [HAT.out, thingV_ok rfl]
        unfold ptr
        obtain ⟨gc, gf⟩ := bcell hb
        have hz : w.heap.size + 1 < w1.heap.size := by have := hb.size; simp at this; omega
        have HB := Lib.hid (below_next HBA'.out hb)
        have HR1 := Lib.hid (HR.out.below HB.out)
        clear hb
        have hob := HR1.out.file i _ HTh.out
        rw [HDD.out, HN.out] at hob
        have c0 : w1.cell? ⟨φ i, 0, none⟩ = some (.string d) := cell_of_heap hob rfl
        have c1 : w1.cell? ⟨φ i, 1, none⟩ = some (.int .i64 (n : Int)) := cell_of_heap hob rfl
        have c2 : w1.cell? ⟨φ i, 2, none⟩ = some (.map none) := cell_of_heap hob rfl
        clear hob
        go_wp2
        go_region
        go_wp2
        refine bodyPost_ret (v := .agg #[.int .i64 0, .int .i64 1, .int .i64 (n : Int), .int .i64 (d.size : Int), .string ⟨#[]⟩, .slice none 0 0]) (by simp [results, Tryz.results34, go_sem, gc]) rfl ?_
        rw [HM.out, HDD.out, HN.out]
        exact ⟨_, rfl, ⟨_, rfl, OwnTexts.void _ _⟩, (below_six HB.out (Nat.le_succ _) _ _ _ _ _ _).drew⟩
    · have HM : Hid (t.tell ⟨kind, path, tt, off, len, data⟩ = {}) := by
        show t.tell ⟨kind, path, tt, off, len, data⟩ = _
        unfold Sp.Tree.tell; rw [HAT.out]; simp only; rw [if_pos trivial, if_neg hk10, if_neg hl]
      have hk10' : (kind == 10) = false := beq_eq_false_iff_ne.2 hk10
      have hk11' : (kind == 11) = false := beq_eq_false_iff_ne.2 hl
      clear hk10 hl
      have HRA := Lib.hid (HR.out.below HBA)
      have hmA := hm.below HBA
      have HBA' := Lib.hid HBA
      clear HBA
      go_enter Tryz.func34, Tryz.ntmps34
      go_wp2_with fail
      refine (tat_any HRA.out HOK.out path hmA hp).mono ?_
      rintro e w1 ⟨rfl, hb⟩
      rw [HAT.out, thingV_ok rfl]
      unfold ptr
      obtain ⟨gc, gf⟩ := bcell hb
      have hz : w.heap.size + 1 < w1.heap.size := by have := hb.size; simp at this; omega
      have HB := Lib.hid (below_next HBA'.out hb)
      have HR1 := Lib.hid (HR.out.below HB.out)
      clear hb
      go_wp2
      refine bodyPost_ret (v := .agg #[.int .i64 0, .int .i64 0, .int .i64 0, .int .i64 0, .string ⟨#[]⟩, .slice none 0 0]) (by simp [results, Tryz.results34, go_sem, gc]) rfl ?_
      rw [HM.out]
      exact ⟨_, rfl, ⟨_, rfl, OwnTexts.void _ _⟩, below_six HB.out (Nat.le_succ _) _ _ _ _ _ _⟩
  · have HM : Hid (t.tell ⟨kind, path, tt, off, len, data⟩ = { code := c }) := by show t.tell ⟨kind, path, tt, off, len, data⟩ = _; unfold Sp.Tree.tell; rw [HAT.out, if_neg h0]
    have hc0 : (c == 0) = false := beq_eq_false_iff_ne.2 h0
    have HV := Lib.hid (thingV_err (φ := φ) HAT.out h0)
    clear h0
    have HRA := Lib.hid (HR.out.below HBA)
    have hmA := hm.below HBA
    have HBA' := Lib.hid HBA
    clear HBA
    go_enter Tryz.func34, Tryz.ntmps34
    go_wp2_with fail
    refine (tat_any HRA.out HOK.out path hmA hp).mono ?_
    rintro e w1 ⟨rfl, hb⟩
    rw [HV.out, HAT.out]
    obtain ⟨gc, gf⟩ := bcell hb
    have hz : w.heap.size + 1 < w1.heap.size := by have := hb.size; simp at this; omega
    have HB := Lib.hid (below_next HBA'.out hb)
    clear hb
    go_wp2
    refine bodyPost_ret (v := .agg #[.int .i64 c, .int .i64 0, .int .i64 0, .int .i64 0, .string ⟨#[]⟩, .slice none 0 0]) (by simp [results, Tryz.results34, go_sem, gc]) rfl ?_
    rw [HM.out]
    exact ⟨_, rfl, ⟨_, rfl, OwnTexts.void _ _⟩, below_six HB.out (Nat.le_succ _) _ _ _ _ _ _⟩
end
end Go.Proofs.YtcgpmnlondnbhaaGreatDoor

namespace Go.Proofs.YtcgpmnlondnbhaaGreatDoor
open Go Go.RowKit Go.Maps Go.Sort Go.Shelf Go.WideMaps Go.WideShapes

def dirR : Value → Option (DataW Unit × List MemPlace) := fun _ => some (.nil, [])
theorem ents_data {P : Program} {k : TypeId} (hks : P.underlying k = some .string) {es : List MapEntry} {l : List (ByteArray × Nat)} (h : es.map (fun e => (e.key, e.val)) = l.map encE) (hs : ∀ x ∈ l, x.1.size ≤ maxLen) :
    (∀ x ∈ es, ∃ y, WideElems.rd P k dirR x = some y) ∧ (es.map (WideElems.rg P k dirR)).map (fun p => strOf p.1) = l.map (fun x => x.1.data.toList) := by
  induction es generalizing l with
  | nil =>
    cases l with
    | nil => exact ⟨fun x hx => absurd hx (by simp), rfl⟩
    | cons y r => simp at h
  | cons e es ih =>
    cases l with
    | nil => simp at h
    | cons y r =>
      rw [List.map_cons, List.map_cons] at h
      injection h with h1 h2
      obtain ⟨g1, g2⟩ := ih h2 (fun x hx => hs x (List.mem_cons_of_mem _ hx))
      have hkey : e.key = .string y.1 := congrArg (·.1) h1
      have hrd : WideElems.rd P k dirR e = some (.string y.1.data.toList, .nil) := by
        unfold WideElems.rd
        rw [hkey, keyOf_string_mk hks (hs y (by simp))]
        rfl
      refine ⟨?_, ?_⟩
      · intro x hx
        rcases List.mem_cons.1 hx with rfl | hx
        · exact ⟨_, hrd⟩
        · exact g1 x hx
      · rw [List.map_cons, List.map_cons, List.map_cons, WideElems.rg_of hrd, g2]
        rfl

theorem owns_dir {P : Program} {k : TypeId} (hks : P.underlying k = some .string) {w : World} {m : Nat} {l : List (ByteArray × Nat)} (hm : MapAt w m l) (hs : ∀ x ∈ l, x.1.size ≤ maxLen) (hl : l.length ≤ 1000000) :
    ∃ D : DataW Unit, w.ownsMap P k dirR m l.length D ∧ (strKeys D).Perm (l.map (fun x => x.1.data.toList)) ∧ Maps.size D = l.length := by
  obtain ⟨o, ho, es, clock, rfl, hst, hen⟩ := hm
  have hsz := ents_len hen
  obtain ⟨h1, h2⟩ := ents_data hks hen hs
  refine ⟨_, ⟨es, clock, ho, ⟨by rw [hsz]; exact Nat.le_trans hl (by decide), hst, h1⟩, Nat.le_of_eq hsz, rfl⟩, ?_, ?_⟩
  · show (((es.toList.map (WideElems.rg P k dirR)).foldr DataW.insert []).map fun p => strOf p.1).Perm _
    rw [← h2]
    exact (sorted_perm _).map _
  · show ((es.toList.map (WideElems.rg P k dirR)).foldr DataW.insert []).length = _
    rw [(sorted_perm _).length_eq, List.length_map, Array.length_toList, hsz]

theorem sort_in (m : Nat) : AnyZ.SortsIn Tryz.prog Tryz.sorted57_ren Fence.wide m :=
  ⟨fun blk off cap ss W hH hblk hsz => callsIn_wide.2 (AnyM.slices_Sort_string Tryz.sort42 blk off cap ss W hH hblk hsz),
   fun p cap W => callsIn_wide.2 (AnyM.slices_Sort_string_none Tryz.sort42 p cap W)⟩

/-- maps.Keys: a function value over one new block, which holds the map. -/
theorem keys_any (mb : Option Nat) (W : World) : Calls Tryz.prog 58 #[.map mb] W fun e w' => e = .returned (.func (.func 79) #[] #[.pointer (some ⟨W.heap.size, 0, none⟩)]) ∧ w' = W.alloc (.cells #[.map mb] 55) :=
  callsIn_wide.1 (AnyZ.keys_in Tryz.keys58 Fence.wide 5 trivial rfl mb W)

set_option maxHeartbeats 1000000 in
theorem sorted_raw (b nn : Nat) (D0 : DataW Unit) (R : Value → Option (DataW Unit × List MemPlace)) (w : World) (hown : w.ownsMap Tryz.prog 9 R b nn D0) (hmax : Maps.size D0 ≤ maxLen) (hbytes : Maps.size D0 * 16 ≤ 140737488355328) :
    Calls Tryz.prog 57 #[.func (.func 79) #[] #[.pointer (some ⟨w.heap.size, 0, none⟩)]] (w.alloc (.cells #[.map (some b)] 55)) fun e w' => ∃ (v : Value) (ss : List (List UInt8)), e = .returned v ∧ ss.Perm (strKeys D0) ∧
      w'.ownsRow (w.alloc (.cells #[.map (some b)] 55)).heap.size 9 1 v ss.length ((ss.mergeSort (fun x y => decide (x ≤ y))).map encStr) ∧ (v = .slice none 0 0 ↔ ss = []) ∧ Below (w.alloc (.cells #[.map (some b)] 55)).heap.size (w.alloc (.cells #[.map (some b)] 55)) w' := by
  have hbl := hown.lt
  have hseq : SeqGives Fence.wide 2 Tryz.prog 79 #[.pointer (some ⟨w.heap.size, 0, none⟩)] encStr (fun ss => ss.Perm (strKeys D0)) (Maps.size D0) (w.alloc (.cells #[.map (some b)] 55)) :=
    AnyZ.keys_gives (ρ := Tryz.keys58_ren) { Tryz.keys58 with } Fence.wide _ trivial rfl (by omega) w.heap.size b nn D0 _ (by simp) (by simp) (by
      obtain ⟨es, clock, hb, Ft, hs, hD⟩ := hown
      exact ⟨es, clock, (Below.heap_alloc _ _ b hbl).trans hb, Ft, hs, hD⟩)
  exact callsIn_wide.1 (AnyZ.sorted_in Tryz.sorted57 Fence.wide 5 trivial trivial trivial trivial rfl (by omega) (sort_in _) (enters_of Tryz.func42 (by kernel_rfl) rfl) 79 #[.pointer (some ⟨w.heap.size, 0, none⟩)] trivial (enters_of Tryz.func79 (by kernel_rfl) rfl) _ _ hmax hbytes _ hseq)

theorem keys_sorted {ss : List (List UInt8)} {l : List ByteArray} (h : ss.Perm (l.map (·.data.toList))) : (ss.mergeSort (fun x y => decide (x ≤ y))).map encStr = (l.mergeSort Sp.leT).map Value.string := by
  rw [mergeSort_of_perm h]
  have h1 : (l.mergeSort Sp.leT).map (·.data.toList) = (l.map (·.data.toList)).mergeSort (fun x y => decide (x ≤ y)) := List.map_mergeSort (fun a _ b _ => rfl)
  show ((l.map (·.data.toList)).mergeSort (fun x y => decide (x ≤ y))).map encStr = _
  rw [← h1, List.map_map]
  refine List.map_congr_left (fun x _ => ?_)
  show encStr x.data.toList = .string x
  unfold encStr
  congr 1

theorem sorted_any {w : World} {m : Nat} {l : List (ByteArray × Nat)} (hm : MapAt w m l) (hs : ∀ x ∈ l, x.1.size ≤ maxLen) (hl : l.length ≤ 1000000) :
    Calls Tryz.prog 57 #[.func (.func 79) #[] #[.pointer (some ⟨w.heap.size, 0, none⟩)]] (w.alloc (.cells #[.map (some m)] 55)) fun e w' => ∃ v, e = .returned v ∧ OwnTexts (w.heap.size + 1) w' v ((l.map (·.1)).mergeSort Sp.leT) ∧
      Below (w.alloc (.cells #[.map (some m)] 55)).heap.size (w.alloc (.cells #[.map (some m)] 55)) w' := by
  obtain ⟨D, h1, h2, h3⟩ := owns_dir Tryz.underlying9 hm hs hl
  refine (sorted_raw m l.length D dirR w h1 (by rw [h3]; exact Nat.le_trans hl (by decide)) (by rw [h3]; omega)).mono ?_
  rintro e w' ⟨v, ss, rfl, hp, ho, _, hb⟩
  have hp2 : ss.Perm ((l.map (·.1)).map (·.data.toList)) := by rw [List.map_map]; exact hp.trans h2
  have hlen : ss.length = ((l.map (·.1)).mergeSort Sp.leT).length := by rw [hp2.length_eq, List.length_map, List.length_mergeSort]
  rw [keys_sorted hp2, hlen] at ho
  have hsz : (w.alloc (.cells #[.map (some m)] 55)).heap.size = w.heap.size + 1 := by simp
  rw [hsz] at ho
  exact ⟨v, rfl, ⟨_, ho⟩, hb⟩
end Go.Proofs.YtcgpmnlondnbhaaGreatDoor

namespace Go.Proofs.YtcgpmnlondnbhaaGreatDoor
open Go Go.RowKit Txt Sp

theorem nameB_size {s : ByteArray} (h : nameB s = true) : s.size ≤ 14 := by
  unfold nameB nameL at h
  have hsz : s.data.toList.length = s.size := Array.length_toList
  simp at h
  omega

theorem kids_sorted {t : Sp.Tree} {p : List ByteArray} {l : List (ByteArray × Nat)} (h : (l.map (·.1)).Perm (t.kidsL p)) : (l.map (·.1)).mergeSort Sp.leT = t.kids p := by
  have h1 : ((l.map (·.1)).mergeSort Sp.leT).map Value.string = ((t.kidsL p).mergeSort Sp.leT).map Value.string := by
    rw [← keys_sorted (ss := (l.map (·.1)).map (·.data.toList)) (List.Perm.refl _), keys_sorted (h.map _)]
  exact (List.map_inj_right (fun a b e => by cases e; rfl)).1 h1

section
set_option maxHeartbeats 1000000
theorem tell_list {w : World} {B : Nat} {t : Sp.Tree} {φ μ : Nat → Nat} (hR : Rep w B t φ μ) (hok : t.Ok) (o : Sp.Op) (ho : OpOk o) (hm : MaxOk w) (hk : ∀ q, (t.kidsL q).length ≤ 1000000) (hl : o.kind = 11) :
    Calls Tryz.prog 34 #[ptr B, opV o] w (TellPost (t.tell o) w) := by
  have m1 := fun (r : Option Nat) (w : World) => run_eql_map_nil (P := Tryz.prog) w 55 _ _ r ht_map
  have m2 := fun (r : Option Nat) (w : World) => run_neq_map_nil (P := Tryz.prog) w 55 _ _ r ht_map
  obtain ⟨kind, path, tt, off, len, data⟩ := o
  have HR := Lib.hid hR
  have HOK := Lib.hid hok
  have HK := Lib.hid hk
  have hp := ho.path
  simp only at hp hl
  subst hl
  obtain ⟨i, c, hat⟩ : ∃ i c, t.at path = (i, c) := ⟨_, _, rfl⟩
  have HAT := Lib.hid hat
  have HBA1 := (Below.refl w.heap.size w).alloc (Nat.le_refl _) (.cells #[.int .i64 11, .string path, .string tt, .int .i64 off, .int .i64 len, .string data] 35)
  have HBA := HBA1.alloc HBA1.size (.cells #[.int .i64 0, .int .i64 0, .int .i64 0, .int .i64 0, .string ⟨#[]⟩, .slice none 0 0] 32)
  have HRA := Lib.hid (HR.out.below HBA)
  have hmA := hm.below HBA
  have HBA' := Lib.hid HBA
  clear hR hok hat hk ho HBA1 HBA
  unfold opV
  simp only
  by_cases h0 : c = 0
  · subst h0
    have HI : Hid (t.idOf (full path) = some i) := by
      have h := (at_ok t (path := path) (by rw [HAT.out])).2.2
      rw [HAT.out] at h
      exact h
    cases hd : t.isDir i with
    | false =>
      have HM : Hid (t.tell ⟨11, path, tt, off, len, data⟩ = { code := 103 }) := by
        show t.tell ⟨11, path, tt, off, len, data⟩ = _
        unfold Sp.Tree.tell; rw [HAT.out]; simp [hd]
      have HD := Lib.hid hd
      clear hd
      go_enter Tryz.func34, Tryz.ntmps34
      go_wp2_with fail
      refine (tat_any HRA.out HOK.out path hmA hp).mono ?_
      rintro e w1 ⟨rfl, hb⟩
      rw [HAT.out, thingV_ok rfl]
      unfold ptr
      obtain ⟨gc, gf⟩ := bcell hb
      have hz : w.heap.size + 1 < w1.heap.size := by have := hb.size; simp at this; omega
      have HB := Lib.hid (below_next HBA'.out hb)
      have c2 := (HR.out.below HB.out).fileCell HOK.out HI.out HD.out
      clear hb
      go_wp2
      refine bodyPost_ret (v := .agg #[.int .i64 103, .int .i64 0, .int .i64 0, .int .i64 0, .string ⟨#[]⟩, .slice none 0 0]) (by simp [results, Tryz.results34, go_sem, gc]) rfl ?_
      rw [HM.out]
      exact ⟨_, rfl, ⟨_, rfl, OwnTexts.void _ _⟩, below_six HB.out (Nat.le_succ _) _ _ _ _ _ _⟩
    | true =>
      have HM : Hid (t.tell ⟨11, path, tt, off, len, data⟩ = { names := t.kids (full path) }) := by
        show t.tell ⟨11, path, tt, off, len, data⟩ = _
        unfold Sp.Tree.tell; rw [HAT.out]; simp [hd]
      have HD := Lib.hid hd
      clear hd
      go_enter Tryz.func34, Tryz.ntmps34
      go_wp2_with fail
      refine (tat_any HRA.out HOK.out path hmA hp).mono ?_
      rintro e w1 ⟨rfl, hb⟩
      rw [HAT.out, thingV_ok rfl]
      unfold ptr
      have hz : w.heap.size + 1 < w1.heap.size := by have := hb.size; simp at this; omega
      have HBs := Lib.hid hb
      have HB := Lib.hid (below_next HBA'.out hb)
      have HR1 := Lib.hid (HR.out.below HB.out)
      have c2 := HR1.out.dirCell HI.out HD.out
      obtain ⟨gc, gf⟩ := bcell hb
      clear hb
      go_wp2_with fail
      refine (keys_any _ _).mono ?_
      rintro e w2 ⟨rfl, rfl⟩
      go_wp2_with fail
      obtain ⟨_, lj, hlj, _⟩ := HR1.out.dir i _ HI.out HD.out
      have hkeys := HR1.out.keys HOK.out HI.out HD.out hlj
      refine (sorted_any hlj (fun x hx => ?_) (by have := HK.out (full path); have h2 := hkeys.length_eq; rw [List.length_map] at h2; omega)).mono ?_
      · have h1 : x.1 ∈ t.kidsL (full path) := hkeys.mem_iff.1 (List.mem_map.2 ⟨x, hx, rfl⟩)
        obtain ⟨j, hj⟩ := kidsL_mem.1 h1
        exact Nat.le_trans (nameB_size (HOK.out.good _ _ hj _ (by simp))) (by decide)
      rintro e w3 ⟨v, rfl, htx, hb⟩
      have HKe := Lib.hid hkeys
      have HTx := Lib.hid htx
      obtain ⟨ad, k, cap, rfl⟩ : ∃ ad k cap, v = .slice ad k cap := by
        obtain ⟨_, _, ⟨h, _⟩ | ⟨_, _, _, h, _⟩⟩ := htx <;> exact ⟨_, _, _, h⟩
      have hb13 := below_next ((Below.refl w1.heap.size w1).alloc (Nat.le_refl _) (.cells #[.map (some (μ i))] 55)) hb
      obtain ⟨gc3, gf3⟩ := bcell (below_next HBs.out hb13)
      have HB3 := Lib.hid (below_next HB.out hb13)
      clear hlj hkeys htx hb hb13 gc gf
      go_wp2
      refine bodyPost_ret (v := .agg #[.int .i64 0, .int .i64 0, .int .i64 0, .int .i64 0, .string ⟨#[]⟩, .slice ad k cap]) (by simp [results, Tryz.results34, go_sem, gc3]) rfl ?_
      rw [HM.out]
      refine ⟨_, rfl, ⟨_, rfl, ?_⟩, below_six HB3.out (Nat.le_succ _) _ _ _ _ _ _⟩
      show OwnTexts _ _ _ (t.kids (full path))
      rw [← kids_sorted HKe.out]
      refine (HTx.out.same (fun k hk o ho => ?_)).mono (by omega)
      have hne : k ≠ w.heap.size + 1 := by omega
      rw [heap_setCell_ne _ hne, heap_setCell_ne _ hne, heap_setCell_ne _ hne, heap_setCell_ne _ hne, heap_setCell_ne _ hne, heap_setCell_ne _ hne]
      exact ho
  · have HM : Hid (t.tell ⟨11, path, tt, off, len, data⟩ = { code := c }) := by show t.tell ⟨11, path, tt, off, len, data⟩ = _; unfold Sp.Tree.tell; rw [HAT.out, if_neg h0]
    have hc0 : (c == 0) = false := beq_eq_false_iff_ne.2 h0
    have HV := Lib.hid (thingV_err (φ := φ) HAT.out h0)
    clear h0
    go_enter Tryz.func34, Tryz.ntmps34
    go_wp2_with fail
    refine (tat_any HRA.out HOK.out path hmA hp).mono ?_
    rintro e w1 ⟨rfl, hb⟩
    rw [HV.out, HAT.out]
    obtain ⟨gc, gf⟩ := bcell hb
    have hz : w.heap.size + 1 < w1.heap.size := by have := hb.size; simp at this; omega
    have HB := Lib.hid (below_next HBA'.out hb)
    clear hb
    go_wp2
    refine bodyPost_ret (v := .agg #[.int .i64 c, .int .i64 0, .int .i64 0, .int .i64 0, .string ⟨#[]⟩, .slice none 0 0]) (by simp [results, Tryz.results34, go_sem, gc]) rfl ?_
    rw [HM.out]
    exact ⟨_, rfl, ⟨_, rfl, OwnTexts.void _ _⟩, below_six HB.out (Nat.le_succ _) _ _ _ _ _ _⟩
end
end Go.Proofs.YtcgpmnlondnbhaaGreatDoor

namespace Go.Proofs.YtcgpmnlondnbhaaGreatDoor
open Go Go.RowKit Txt Sp

theorem alloc_at {w : World} {n : Nat} (h : w.heap.size = n) (o : Obj) : (w.alloc o).heap[n]? = some o := by
  rw [← h]; exact heap_alloc_new w o
theorem new_has {i : Nat} (h : Sp.new.has i) : i = 0 := by
  obtain ⟨b, d, h⟩ := h
  cases List.mem_singleton.1 h
  rfl
theorem new_rep {w : World} {n : Nat} (h1 : w.heap[n + 1 + 1]? = some (treeO (n + 1))) (h2 : w.heap[n + 1]? = some (thingO (ofL []) 0 (some n))) (h3 : w.heap[n]? = some (.map #[] 0)) : Rep w (n + 1 + 1) Sp.new (fun _ => n + 1) (fun _ => n) where
  root := h1
  file i d h := by cases List.mem_singleton.1 h
  dir i p hp hd := by
    have hz : i = 0 := by
      unfold Sp.Tree.idOf at hp
      split at hp
      · exact (Option.some.inj hp).symm
      · cases hp
    subst hz
    exact ⟨h2, [], ⟨_, h3, IsMap.new⟩, fun s => rfl⟩
  inj i j hi hj _ := by rw [new_has hi, new_has hj]
  injm i j hi hj _ _ _ := by rw [new_has hi, new_has hj]

section
set_option maxHeartbeats 1000000
theorem new_any (w : World) : Calls Tryz.prog 6 #[] w fun e w' => ∃ B φ μ, e = .returned (ptr B) ∧ Rep w' B Sp.new φ μ ∧ Below w.heap.size w w' ∧ ∀ k, Rep.dom B Sp.new φ μ k → w.heap.size ≤ k := by
  have hmm := @run_makeMap Tryz.prog
  go_enter Tryz.func6, Tryz.ntmps6
  go_wp2
  go_ret
  have hb := (((Below.refl w.heap.size w).alloc (Nat.le_refl _) (.map #[] 0)).alloc (by simp) (.cells #[.string ⟨#[]⟩, .int .i64 0, .map (some w.heap.size)] 57)).alloc (by simp; omega) (.cells #[.pointer (some ⟨w.heap.size + 1, 0, none⟩)] 59)
  refine ⟨w.heap.size + 1 + 1, fun _ => w.heap.size + 1, fun _ => w.heap.size, rfl, new_rep ?_ ?_ ?_, hb, ?_⟩
  · exact alloc_at (by simp) _
  · exact heap_below ((Below.refl _ _).alloc (Nat.le_refl _) _) _ _ (alloc_at (by simp) _)
  · exact heap_below ((Below.refl _ _).alloc (Nat.le_refl _) _) _ _ (heap_below ((Below.refl _ _).alloc (Nat.le_refl _) _) _ _ (alloc_at rfl _))
  · rintro k (rfl | ⟨i, _, rfl | ⟨_, rfl⟩⟩)
    · omega
    · exact Nat.le_succ _
    · exact Nat.le_refl _
end
end Go.Proofs.YtcgpmnlondnbhaaGreatDoor

namespace Go.Proofs.YtcgpmnlondnbhaaGreatDoor
open Go Go.RowKit Txt Sp

section
set_option maxHeartbeats 1000000
/-- Behind an operation: what is told; the tree lies there; nothing but it and new blocks has turned. -/
def DoPost (o : Sp.Op) (w : World) (B : Nat) (t : Sp.Tree) (φ μ : Nat → Nat) (e : Ending) (w' : World) : Prop :=
  ∃ v φ' μ' m, e = .returned v ∧ AnsO m w' v (t.step o).2 ∧ Rep w' B (t.step o).1 φ' μ' ∧ Turn (Rep.dom B t φ μ) w w' ∧ (∀ k, Rep.dom B (t.step o).1 φ' μ' k → Rep.dom B t φ μ k ∨ w.heap.size ≤ k) ∧ w.heap.size ≤ m ∧ ∀ k, Rep.dom B (t.step o).1 φ' μ' k → k < m

/-- Where Do stands once its parameter, its answer and the new thing have blocks. -/
def doW (w : World) (k : Int) (path tt : ByteArray) (off len : Int) (data : ByteArray) (m : Option Nat) : World :=
  ((w.alloc (.cells #[.int .i64 k, .string path, .string tt, .int .i64 off, .int .i64 len, .string data] 35)).alloc (.cells #[.int .i64 0, .int .i64 0, .int .i64 0, .int .i64 0, .string ⟨#[]⟩, .slice none 0 0] 32)).alloc (.cells #[.string ⟨#[]⟩, .int .i64 0, .map m] 57)
theorem doW_below (w : World) (k : Int) (path tt : ByteArray) (off len : Int) (data : ByteArray) (m : Option Nat) : Below w.heap.size w (doW w k path tt off len data m) := by
  have hb0 := (Below.refl w.heap.size w).alloc (Nat.le_refl _) (.cells #[.int .i64 k, .string path, .string tt, .int .i64 off, .int .i64 len, .string data] 35)
  have hb1 := hb0.alloc hb0.size (.cells #[.int .i64 0, .int .i64 0, .int .i64 0, .int .i64 0, .string ⟨#[]⟩, .slice none 0 0] 32)
  exact hb1.alloc hb1.size (.cells #[.string ⟨#[]⟩, .int .i64 0, .map m] 57)

theorem doW_ans (w : World) (k : Int) (path tt : ByteArray) (off len : Int) (data : ByteArray) (m : Option Nat) : (doW w k path tt off len data m).heap[w.heap.size + 1]? = some (.cells #[.int .i64 0, .int .i64 0, .int .i64 0, .int .i64 0, .string ⟨#[]⟩, .slice none 0 0] 32 (0, 0)) :=
  heap_below ((Below.refl _ _).alloc (Nat.le_refl _) _) _ _ (alloc_at (by simp) _)
theorem doW_thing (w : World) (k : Int) (path tt : ByteArray) (off len : Int) (data : ByteArray) (m : Option Nat) : (doW w k path tt off len data m).heap[w.heap.size + 1 + 1]? = some (thingO (ofL []) 0 m) :=
  alloc_at (by simp) _

theorem Rep.dom_lt {w : World} {B : Nat} {t : Sp.Tree} {φ μ : Nat → Nat} (hR : Rep w B t φ μ) (hok : t.Ok) {k : Nat} (h : Rep.dom B t φ μ k) : k < w.heap.size := by
  rcases h with rfl | ⟨i, hi, rfl | ⟨hd, rfl⟩⟩
  · exact (Array.getElem?_eq_some_iff.1 hR.root).1
  · exact hR.lt_thing hok hi
  · exact hR.lt_map hok hi hd

/-- The answer's block: its cells. -/
theorem ans_cells {w : World} {n : Nat} (h : w.heap[n]? = some (.cells #[.int .i64 0, .int .i64 0, .int .i64 0, .int .i64 0, .string ⟨#[]⟩, .slice none 0 0] 32 (0, 0))) :
    (∀ k, w.cell? ⟨n, k, none⟩ = (#[Value.int .i64 0, .int .i64 0, .int .i64 0, .int .i64 0, .string ⟨#[]⟩, .slice none 0 0] : Array Value)[k]?) ∧ ∀ k, w.frozen? ⟨n, k, none⟩ = false :=
  ⟨fun k => by simp [World.cell?, h], fun k => by simp [World.frozen?, h]⟩

theorem six_same (w : World) {n k : Nat} (h : k ≠ n) (a b c d e f : Value) :
    ((((((w.setCell ⟨n, 0, none⟩ a).setCell ⟨n, 1, none⟩ b).setCell ⟨n, 2, none⟩ c).setCell ⟨n, 3, none⟩ d).setCell ⟨n, 4, none⟩ e).setCell ⟨n, 5, none⟩ f).heap[k]? = w.heap[k]? := by
  rw [heap_setCell_ne _ h, heap_setCell_ne _ h, heap_setCell_ne _ h, heap_setCell_ne _ h, heap_setCell_ne _ h, heap_setCell_ne _ h]
theorem Turn.setCell {K : Nat → Prop} {w w' : World} (h : Turn K w w') {n : Nat} (hn : K n) (k : Nat) (v : Value) : Turn K w (w'.setCell ⟨n, k, none⟩ v) :=
  ⟨h.os, h.tape, h.output, by rw [size_setCell]; exact h.size, fun j hj hK => by
    have hne : j ≠ n := fun e => hK (by rw [e]; exact hn)
    rw [heap_setCell_ne _ hne]; exact h.block j hj hK⟩
theorem six_turn (w : World) (n : Nat) (a b c d e f : Value) :
    Turn (fun k => k = n) w ((((((w.setCell ⟨n, 0, none⟩ a).setCell ⟨n, 1, none⟩ b).setCell ⟨n, 2, none⟩ c).setCell ⟨n, 3, none⟩ d).setCell ⟨n, 4, none⟩ e).setCell ⟨n, 5, none⟩ f) :=
  have h0 : Turn (fun k => k = n) w w := Turn.refl _ w
  ((((((h0.setCell rfl 0 a).setCell rfl 1 b).setCell rfl 2 c).setCell rfl 3 d).setCell rfl 4 e).setCell rfl 5 f)

theorem Rep.dom_same {w w' : World} {B : Nat} {t : Sp.Tree} {φ μ : Nat → Nat} (hR : Rep w B t φ μ) (hok : t.Ok) (hs : ∀ k, Rep.dom B t φ μ k → ∀ o, w.heap[k]? = some o → w'.heap[k]? = some o) : Rep w' B t φ μ where
  root := hs _ (Or.inl rfl) _ hR.root
  file i d h := hs _ (dom_thing ⟨_, _, h⟩) _ (hR.file i d h)
  dir i p hp hd := let ⟨h1, l, h2, h3⟩ := hR.dir i p hp hd; ⟨hs _ (dom_thing (has_idOf hok hp)) _ h1, l, h2.same (hs _ (dom_map (has_idOf hok hp) hd)), h3⟩
  inj := hR.inj
  injm := hR.injm

/-- Do's end: the answer is laid into its own block. -/
theorem do_end {w W w1 F : World} {B : Nat} {t t' : Sp.Tree} {φ μ φ' μ' : Nat → Nat} {a : Sp.Ans} (hR : Rep w B t φ μ) (hok : t.Ok) (hok' : t'.Ok) (hW : Below w.heap.size w W) (hR1 : Rep w1 B t' φ' μ')
    (hT : Turn (fun k => Rep.dom B t φ μ k ∨ w.heap.size ≤ k) W w1) (hdom : ∀ k, Rep.dom B t' φ' μ' k → Rep.dom B t φ μ k ∨ w.heap.size + 1 < k) (ha : a.names = []) (v0 v1 v2 v3 v4 v5 : Value)
    (hF : ((((((w1.setCell ⟨w.heap.size + 1, 0, none⟩ v0).setCell ⟨w.heap.size + 1, 1, none⟩ v1).setCell ⟨w.heap.size + 1, 2, none⟩ v2).setCell ⟨w.heap.size + 1, 3, none⟩ v3).setCell ⟨w.heap.size + 1, 4, none⟩ v4).setCell ⟨w.heap.size + 1, 5, none⟩ v5) = F) :
    ∃ v φ2 μ2 m, Ending.returned (.agg #[.int .i64 a.code, .int .i64 a.kind, .int .i64 a.links, .int .i64 a.size, .string a.data, .slice none 0 0]) = .returned v ∧
      AnsO m F v a ∧ Rep F B t' φ2 μ2 ∧ Turn (Rep.dom B t φ μ) w F ∧ (∀ k, Rep.dom B t' φ2 μ2 k → Rep.dom B t φ μ k ∨ w.heap.size ≤ k) ∧ w.heap.size ≤ m ∧ ∀ k, Rep.dom B t' φ2 μ2 k → k < m := by
  have hlt : ∀ k, Rep.dom B t' φ' μ' k → k ≠ w.heap.size + 1 := fun k hk e => by
    rcases hdom k hk with h | h
    · have := hR.dom_lt hok h; omega
    · omega
  have hT2 : Turn (Rep.dom B t φ μ) w F := by
    rw [← hF]
    refine ((Turn.of_below (K := fun _ => False) hW).trans hT (K := Rep.dom B t φ μ) (fun _ _ h => h.elim) (fun k hk h => ?_)).trans (six_turn _ _ _ _ _ _ _ _) (fun _ _ h => h) (fun k hk h => ?_)
    · rcases h with h | h
      · exact h
      · omega
    · omega
  have hRF : Rep F B t' φ' μ' := hR1.dom_same hok' (fun k hk o ho => by rw [← hF, six_same w1 (hlt k hk)]; exact ho)
  exact ⟨_, φ', μ', F.heap.size, rfl, AnsO.bare _ _ _ ha, hRF, hT2, fun k hk => (hdom k hk).imp_right (fun h => by omega), hT2.size, fun k hk => hRF.dom_lt hok' hk⟩

theorem do_form {w : World} {B : Nat} {t : Sp.Tree} {φ μ : Nat → Nat} (hR : Rep w B t φ μ) (hok : t.Ok) (o : Sp.Op) (hk : o.kind < 1 ∨ 12 < o.kind) :
    Calls Tryz.prog 12 #[ptr B, opV o] w (DoPost o w B t φ μ) := by
  obtain ⟨kind, path, tt, off, len, data⟩ := o
  have HR := Lib.hid hR
  have HOK := Lib.hid hok
  clear hR hok
  unfold opV
  simp only at hk ⊢
  unfold ptr
  go_enter Tryz.func12, Tryz.ntmps12
  go_wp2_with fail
  refine bodyPost_ret (v := .agg #[.int .i64 3, .int .i64 0, .int .i64 0, .int .i64 0, .string ⟨#[]⟩, .slice none 0 0]) (by simp [results, Tryz.results12, go_sem]) rfl ?_
  have hS : t.step ⟨kind, path, tt, off, len, data⟩ = (t, { code := 3 }) := by
    unfold Sp.Tree.step
    simp only
    rw [if_neg (by omega), if_neg (by omega), if_neg (by omega), if_neg (by omega), if_neg (by omega), if_neg (by omega), if_neg (by omega), if_neg (by omega)]
  unfold DoPost
  rw [hS]
  have hb0 := (Below.refl w.heap.size w).alloc (Nat.le_refl _) (.cells #[.int .i64 kind, .string path, .string tt, .int .i64 off, .int .i64 len, .string data] 35)
  have hb1 := hb0.alloc hb0.size (.cells #[.int .i64 3, .int .i64 0, .int .i64 0, .int .i64 0, .string ⟨#[]⟩, .slice none 0 0] 32)
  have hb2 := hb1.alloc hb1.size (.cells #[.string ⟨#[]⟩, .int .i64 0, .map none] 57)
  exact ⟨_, φ, μ, w.heap.size, rfl, AnsO.bare _ _ { code := 3 } rfl, HR.out.below hb2, Turn.of_below hb2, fun _ h => Or.inl h, Nat.le_refl _, fun _ h => HR.out.dom_lt HOK.out h⟩
end
end Go.Proofs.YtcgpmnlondnbhaaGreatDoor

namespace Go.Proofs.YtcgpmnlondnbhaaGreatDoor
open Go Go.RowKit Txt Sp

section
set_option maxHeartbeats 1000000


theorem do_create {w : World} {B : Nat} {t : Sp.Tree} {φ μ : Nat → Nat} (hR : Rep w B t φ μ) (hok : t.Ok) (o : Sp.Op) (ho : OpOk o) (hm : MaxOk w) (hk : o.kind = 1) :
    Calls Tryz.prog 12 #[ptr B, opV o] w (DoPost o w B t φ μ) := by
  obtain ⟨kind, path, tt, off, len, data⟩ := o
  have HR := Lib.hid hR
  have HOK := Lib.hid hok
  have hp := ho.path
  simp only at hk hp
  subst hk
  clear hR hok ho
  unfold opV
  unfold ptr
  go_enter Tryz.func12, Tryz.ntmps12
  go_wp2_with fail
  have HW := Lib.hid (doW_below w 1 path tt off len data none)
  have hcr := create_any (HR.out.below HW.out) HOK.out path (hm.below HW.out) hp false (b := w.heap.size + 1 + 1) (mb := w.heap.size + 1 + 1) (doW_thing w 1 path tt off len data none) (fun j hj e => by have := HR.out.lt_thing HOK.out hj; omega) (fun j hj hd e => by have := HR.out.lt_map HOK.out hj hd; omega) (fun h => by cases h)
  refine hcr.mono ?_
  rintro e w1 ⟨rfl, φ', μ', hR1, hT, hdom⟩
  have hans := hT.heap (doW_ans w 1 path tt off len data none) (by
    rintro (h | h)
    · have := HR.out.dom_lt HOK.out h; omega
    · omega)
  obtain ⟨c, hc⟩ : ∃ c, (t.make path false).2 = c := ⟨_, rfl⟩
  rw [hc]
  clear hcr
  have HC := Lib.hid hc
  have HA := Lib.hid hans
  have HR1 := Lib.hid hR1
  have HT := Lib.hid hT
  have HD := Lib.hid hdom
  obtain ⟨g0, g1⟩ := ans_cells hans
  clear hc hans hR1 hT hdom
  go_wp2
  refine bodyPost_ret (v := .agg #[.int .i64 c, .int .i64 0, .int .i64 0, .int .i64 0, .string ⟨#[]⟩, .slice none 0 0]) (by simp [results, Tryz.results12, go_sem, g0]) rfl ?_
  have hS : t.step ⟨1, path, tt, off, len, data⟩ = ((t.make path false).1, { code := c }) := by rw [← HC.out]; rfl
  unfold DoPost
  rw [hS]
  exact do_end (a := { code := c }) HR.out HOK.out (HOK.out.make path false) HW.out HR1.out (HT.out.mono (fun k _ h => h.imp_right (fun e => by omega))) (fun k hk => by
    rcases HD.out k hk with h | h | ⟨h, _⟩
    · exact Or.inl h
    · exact Or.inr (by omega)
    · cases h) rfl _ _ _ _ _ _ rfl

theorem do_mkdir {w : World} {B : Nat} {t : Sp.Tree} {φ μ : Nat → Nat} (hR : Rep w B t φ μ) (hok : t.Ok) (o : Sp.Op) (ho : OpOk o) (hm : MaxOk w) (hk : o.kind = 2) :
    Calls Tryz.prog 12 #[ptr B, opV o] w (DoPost o w B t φ μ) := by
  obtain ⟨kind, path, tt, off, len, data⟩ := o
  have HR := Lib.hid hR
  have HOK := Lib.hid hok
  have hp := ho.path
  have hmm := @run_makeMap Tryz.prog
  simp only at hk hp
  subst hk
  clear hR hok ho
  unfold opV
  unfold ptr
  go_enter Tryz.func12, Tryz.ntmps12
  go_wp2_with fail
  obtain ⟨W, hW⟩ : ∃ W, (doW w 2 path tt off len data (some (w.heap.size + 1 + 1 + 1))).alloc (.map #[] 0) = W := ⟨_, rfl⟩
  have HB0 := doW_below w 2 path tt off len data (some (w.heap.size + 1 + 1 + 1))
  have HW : Hid (Below w.heap.size w W) := by
    show Below w.heap.size w W
    rw [← hW]
    exact HB0.alloc HB0.size _
  have hth : W.heap[w.heap.size + 1 + 1]? = some (thingO (ofL []) 0 (some (w.heap.size + 1 + 1 + 1))) := by
    rw [← hW]
    exact heap_below ((Below.refl _ _).alloc (Nat.le_refl _) _) _ _ (doW_thing w 2 path tt off len data _)
  have hmp : MapAt W (w.heap.size + 1 + 1 + 1) [] := by
    refine ⟨_, ?_, IsMap.new⟩
    rw [← hW]
    exact alloc_at (by simp [doW]) _
  have hans0 : W.heap[w.heap.size + 1]? = some (.cells #[.int .i64 0, .int .i64 0, .int .i64 0, .int .i64 0, .string ⟨#[]⟩, .slice none 0 0] 32 (0, 0)) := by
    rw [← hW]
    exact heap_below ((Below.refl _ _).alloc (Nat.le_refl _) _) _ _ (doW_ans w 2 path tt off len data _)
  have hcr := create_any (HR.out.below HW.out) HOK.out path (hm.below HW.out) hp true (b := w.heap.size + 1 + 1) (mb := w.heap.size + 1 + 1 + 1) hth (fun j hj e => by have := HR.out.lt_thing HOK.out hj; omega) (fun j hj hd e => by have := HR.out.lt_map HOK.out hj hd; omega) (fun _ => hmp)
  rw [← hW] at hcr
  refine hcr.mono ?_
  rw [hW]
  clear hcr
  rintro e w1 ⟨rfl, φ', μ', hR1, hT, hdom⟩
  have hans := hT.heap hans0 (by
    rintro (h | h)
    · have := HR.out.dom_lt HOK.out h; omega
    · omega)
  obtain ⟨c, hc⟩ : ∃ c, (t.make path true).2 = c := ⟨_, rfl⟩
  rw [hc]
  clear hth hmp hans0 HB0 hW
  have HC := Lib.hid hc
  have HA := Lib.hid hans
  have HR1 := Lib.hid hR1
  have HT := Lib.hid hT
  have HD := Lib.hid hdom
  obtain ⟨g0, g1⟩ := ans_cells hans
  clear hc hans hR1 hT hdom
  go_wp2
  refine bodyPost_ret (v := .agg #[.int .i64 c, .int .i64 0, .int .i64 0, .int .i64 0, .string ⟨#[]⟩, .slice none 0 0]) (by simp [results, Tryz.results12, go_sem, g0]) rfl ?_
  have hS : t.step ⟨2, path, tt, off, len, data⟩ = ((t.make path true).1, { code := c }) := by rw [← HC.out]; rfl
  unfold DoPost
  rw [hS]
  exact do_end (a := { code := c }) HR.out HOK.out (HOK.out.make path true) HW.out HR1.out (HT.out.mono (fun k _ h => h.imp_right (fun e => by omega))) (fun k hk => by
    rcases HD.out k hk with h | h | ⟨_, h⟩
    · exact Or.inl h
    · exact Or.inr (by omega)
    · exact Or.inr (by omega)) rfl _ _ _ _ _ _ rfl

theorem do_link {w : World} {B : Nat} {t : Sp.Tree} {φ μ : Nat → Nat} (hR : Rep w B t φ μ) (hok : t.Ok) (o : Sp.Op) (ho : OpOk o) (hm : MaxOk w) (hlinks : ∀ i, t.links i ≤ 1000000) (hk : o.kind = 3) :
    Calls Tryz.prog 12 #[ptr B, opV o] w (DoPost o w B t φ μ) := by
  obtain ⟨kind, path, tt, off, len, data⟩ := o
  have HR := Lib.hid hR
  have HOK := Lib.hid hok
  have HL := Lib.hid hlinks
  have hp := ho.path
  have hp2 := ho.dest
  simp only at hk hp hp2
  subst hk
  clear hR hok ho hlinks
  unfold opV
  unfold ptr
  go_enter Tryz.func12, Tryz.ntmps12
  go_wp2_with fail
  have HW := Lib.hid (doW_below w 3 path tt off len data none)
  refine (link_any (HR.out.below HW.out) HOK.out path tt (hm.below HW.out) hp hp2 HL.out).mono ?_
  rintro e w1 ⟨rfl, hR1, hT, hdom⟩
  have hans := hT.heap (doW_ans w 3 path tt off len data none) (fun h => by have := HR.out.dom_lt HOK.out h; omega)
  obtain ⟨c, hc⟩ : ∃ c, (t.link path tt).2 = c := ⟨_, rfl⟩
  rw [hc]
  have HC := Lib.hid hc
  have HA := Lib.hid hans
  have HR1 := Lib.hid hR1
  have HT := Lib.hid hT
  have HD := Lib.hid hdom
  obtain ⟨g0, g1⟩ := ans_cells hans
  clear hc hans hR1 hT hdom
  go_wp2
  refine bodyPost_ret (v := .agg #[.int .i64 c, .int .i64 0, .int .i64 0, .int .i64 0, .string ⟨#[]⟩, .slice none 0 0]) (by simp [results, Tryz.results12, go_sem, g0]) rfl ?_
  have hS : t.step ⟨3, path, tt, off, len, data⟩ = ((t.link path tt).1, { code := c }) := by rw [← HC.out]; rfl
  unfold DoPost
  rw [hS]
  exact do_end (a := { code := c }) HR.out HOK.out (HOK.out.link path tt) HW.out HR1.out (HT.out.mono (fun k _ h => Or.inl h)) (fun k hk => Or.inl (HD.out k hk)) rfl _ _ _ _ _ _ rfl

theorem do_unlink {w : World} {B : Nat} {t : Sp.Tree} {φ μ : Nat → Nat} (hR : Rep w B t φ μ) (hok : t.Ok) (o : Sp.Op) (ho : OpOk o) (hm : MaxOk w) (hlinks : ∀ i, t.links i ≤ 1000000) (hkids : ∀ q, (t.kidsL q).length ≤ 1000000) (hk : o.kind = 4) :
    Calls Tryz.prog 12 #[ptr B, opV o] w (DoPost o w B t φ μ) := by
  obtain ⟨kind, path, tt, off, len, data⟩ := o
  have HR := Lib.hid hR
  have HOK := Lib.hid hok
  have HL := Lib.hid hlinks
  have HK := Lib.hid hkids
  have hp := ho.path
  simp only at hk hp
  subst hk
  clear hR hok ho hlinks hkids
  unfold opV
  unfold ptr
  go_enter Tryz.func12, Tryz.ntmps12
  go_wp2_with fail
  have HW := Lib.hid (doW_below w 4 path tt off len data none)
  refine (remove_any (HR.out.below HW.out) HOK.out path (hm.below HW.out) hp false HL.out HK.out).mono ?_
  rintro e w1 ⟨rfl, hR1, hT, hdom⟩
  have hans := hT.heap (doW_ans w 4 path tt off len data none) (fun h => by have := HR.out.dom_lt HOK.out h; omega)
  obtain ⟨c, hc⟩ : ∃ c, (t.remove path false).2 = c := ⟨_, rfl⟩
  rw [hc]
  have HC := Lib.hid hc
  have HA := Lib.hid hans
  have HR1 := Lib.hid hR1
  have HT := Lib.hid hT
  have HD := Lib.hid hdom
  obtain ⟨g0, g1⟩ := ans_cells hans
  clear hc hans hR1 hT hdom
  go_wp2
  refine bodyPost_ret (v := .agg #[.int .i64 c, .int .i64 0, .int .i64 0, .int .i64 0, .string ⟨#[]⟩, .slice none 0 0]) (by simp [results, Tryz.results12, go_sem, g0]) rfl ?_
  have hS : t.step ⟨4, path, tt, off, len, data⟩ = ((t.remove path false).1, { code := c }) := by rw [← HC.out]; rfl
  unfold DoPost
  rw [hS]
  exact do_end (a := { code := c }) HR.out HOK.out (HOK.out.remove path false) HW.out HR1.out (HT.out.mono (fun k _ h => Or.inl h)) (fun k hk => Or.inl (HD.out k hk)) rfl _ _ _ _ _ _ rfl

theorem do_rmdir {w : World} {B : Nat} {t : Sp.Tree} {φ μ : Nat → Nat} (hR : Rep w B t φ μ) (hok : t.Ok) (o : Sp.Op) (ho : OpOk o) (hm : MaxOk w) (hlinks : ∀ i, t.links i ≤ 1000000) (hkids : ∀ q, (t.kidsL q).length ≤ 1000000) (hk : o.kind = 5) :
    Calls Tryz.prog 12 #[ptr B, opV o] w (DoPost o w B t φ μ) := by
  obtain ⟨kind, path, tt, off, len, data⟩ := o
  have HR := Lib.hid hR
  have HOK := Lib.hid hok
  have HL := Lib.hid hlinks
  have HK := Lib.hid hkids
  have hp := ho.path
  simp only at hk hp
  subst hk
  clear hR hok ho hlinks hkids
  unfold opV
  unfold ptr
  go_enter Tryz.func12, Tryz.ntmps12
  go_wp2_with fail
  have HW := Lib.hid (doW_below w 5 path tt off len data none)
  refine (remove_any (HR.out.below HW.out) HOK.out path (hm.below HW.out) hp true HL.out HK.out).mono ?_
  rintro e w1 ⟨rfl, hR1, hT, hdom⟩
  have hans := hT.heap (doW_ans w 5 path tt off len data none) (fun h => by have := HR.out.dom_lt HOK.out h; omega)
  obtain ⟨c, hc⟩ : ∃ c, (t.remove path true).2 = c := ⟨_, rfl⟩
  rw [hc]
  have HC := Lib.hid hc
  have HA := Lib.hid hans
  have HR1 := Lib.hid hR1
  have HT := Lib.hid hT
  have HD := Lib.hid hdom
  obtain ⟨g0, g1⟩ := ans_cells hans
  clear hc hans hR1 hT hdom
  go_wp2
  refine bodyPost_ret (v := .agg #[.int .i64 c, .int .i64 0, .int .i64 0, .int .i64 0, .string ⟨#[]⟩, .slice none 0 0]) (by simp [results, Tryz.results12, go_sem, g0]) rfl ?_
  have hS : t.step ⟨5, path, tt, off, len, data⟩ = ((t.remove path true).1, { code := c }) := by rw [← HC.out]; rfl
  unfold DoPost
  rw [hS]
  exact do_end (a := { code := c }) HR.out HOK.out (HOK.out.remove path true) HW.out HR1.out (HT.out.mono (fun k _ h => Or.inl h)) (fun k hk => Or.inl (HD.out k hk)) rfl _ _ _ _ _ _ rfl

theorem do_rename {w : World} {B : Nat} {t : Sp.Tree} {φ μ : Nat → Nat} (hR : Rep w B t φ μ) (hok : t.Ok) (o : Sp.Op) (ho : OpOk o) (hm : MaxOk w) (hlinks : ∀ i, t.links i ≤ 1000000) (hkids : ∀ q, (t.kidsL q).length ≤ 1000000) (hk : o.kind = 6) :
    Calls Tryz.prog 12 #[ptr B, opV o] w (DoPost o w B t φ μ) := by
  obtain ⟨kind, path, tt, off, len, data⟩ := o
  have HR := Lib.hid hR
  have HOK := Lib.hid hok
  have HL := Lib.hid hlinks
  have HK := Lib.hid hkids
  have hp := ho.path
  have hp2 := ho.dest
  simp only at hk hp hp2
  subst hk
  clear hR hok ho hlinks hkids
  unfold opV
  unfold ptr
  go_enter Tryz.func12, Tryz.ntmps12
  go_wp2_with fail
  have HW := Lib.hid (doW_below w 6 path tt off len data none)
  refine (rename_any (HR.out.below HW.out) HOK.out path tt (hm.below HW.out) hp hp2 HL.out HK.out).mono ?_
  rintro e w1 ⟨rfl, hR1, hT, hdom⟩
  have hans := hT.heap (doW_ans w 6 path tt off len data none) (fun h => by have := HR.out.dom_lt HOK.out h; omega)
  obtain ⟨c, hc⟩ : ∃ c, (t.rename path tt).2 = c := ⟨_, rfl⟩
  rw [hc]
  have HC := Lib.hid hc
  have HA := Lib.hid hans
  have HR1 := Lib.hid hR1
  have HT := Lib.hid hT
  have HD := Lib.hid hdom
  obtain ⟨g0, g1⟩ := ans_cells hans
  clear hc hans hR1 hT hdom
  go_wp2
  refine bodyPost_ret (v := .agg #[.int .i64 c, .int .i64 0, .int .i64 0, .int .i64 0, .string ⟨#[]⟩, .slice none 0 0]) (by simp [results, Tryz.results12, go_sem, g0]) rfl ?_
  have hS : t.step ⟨6, path, tt, off, len, data⟩ = ((t.rename path tt).1, { code := c }) := by rw [← HC.out]; rfl
  unfold DoPost
  rw [hS]
  exact do_end (a := { code := c }) HR.out HOK.out (HOK.out.rename path tt) HW.out HR1.out (HT.out.mono (fun k _ h => Or.inl h)) (fun k hk => Or.inl (HD.out k hk)) rfl _ _ _ _ _ _ rfl
end
end Go.Proofs.YtcgpmnlondnbhaaGreatDoor

namespace Go.Proofs.YtcgpmnlondnbhaaGreatDoor
open Go Go.RowKit Txt Sp

theorem bytes_err {t : Sp.Tree} {o : Sp.Op} {i : Nat} {c : Int} (h : t.file o.path = (i, c)) (hc : c ≠ 0) : t.bytes o = (t, ofL [], c) := by
  unfold Sp.Tree.bytes; rw [h, if_neg hc]
theorem step_bytes {t : Sp.Tree} {o : Sp.Op} (hk : o.kind = 7 ∨ o.kind = 8 ∨ o.kind = 9) : t.step o = ((t.bytes o).1, { code := (t.bytes o).2.2, data := (t.bytes o).2.1 }) := by
  unfold Sp.Tree.step
  rw [if_neg (by omega), if_neg (by omega), if_neg (by omega), if_neg (by omega), if_neg (by omega), if_neg (by omega), if_pos hk]

theorem doW_op (w : World) (k : Int) (path tt : ByteArray) (off len : Int) (data : ByteArray) (m : Option Nat) : (doW w k path tt off len data m).heap[w.heap.size]? = some (.cells #[.int .i64 k, .string path, .string tt, .int .i64 off, .int .i64 len, .string data] 35 (0, 0)) :=
  heap_below ((Below.refl _ _).alloc (Nat.le_refl _) _) _ _ (heap_below ((Below.refl _ _).alloc (Nat.le_refl _) _) _ _ (alloc_at rfl _))
theorem op_cells {w : World} {n : Nat} {k off len : Int} {path tt data : ByteArray} (h : w.heap[n]? = some (.cells #[.int .i64 k, .string path, .string tt, .int .i64 off, .int .i64 len, .string data] 35 (0, 0))) :
    ∀ j, w.cell? ⟨n, j, none⟩ = (#[Value.int .i64 k, .string path, .string tt, .int .i64 off, .int .i64 len, .string data] : Array Value)[j]? := fun j => by simp [World.cell?, h]

section
set_option maxHeartbeats 1000000


theorem do_bytes {w : World} {B : Nat} {t : Sp.Tree} {φ μ : Nat → Nat} (hR : Rep w B t φ μ) (hok : t.Ok) (o : Sp.Op) (ho : OpOk o) (hm : MaxOk w) (hk : o.kind = 7 ∨ o.kind = 8 ∨ o.kind = 9) :
    Calls Tryz.prog 12 #[ptr B, opV o] w (DoPost o w B t φ μ) := by
  have HSt := Lib.hid (step_bytes (t := t) hk)
  obtain ⟨kind, path, tt, off, len, data⟩ := o
  have HR := Lib.hid hR
  have HOK := Lib.hid hok
  have HO := Lib.hid ho
  have hp := ho.path
  simp only at hk hp
  obtain ⟨i, c, hf⟩ : ∃ i c, t.file path = (i, c) := ⟨_, _, rfl⟩
  have HF := Lib.hid hf
  have HW := Lib.hid (doW_below w kind path tt off len data none)
  have HA := Lib.hid (doW_ans w kind path tt off len data none)
  have HOp := Lib.hid (doW_op w kind path tt off len data none)
  unfold opV
  unfold ptr
  by_cases h0 : c = 0
  · subst h0
    obtain ⟨h1, h2, h3⟩ := file_ok hok hf
    have HS := Lib.hid (hok.small _ _ h3)
    have H3 := Lib.hid h3
    obtain ⟨s, g, hsg⟩ : ∃ s g, (bytesD (t.dataOf i) ⟨kind, path, tt, off, len, data⟩).2 = (s, g) := ⟨_, _, rfl⟩
    have HSG := Lib.hid hsg
    clear hR hok ho hf h1 h2 h3 hsg
    have fin : ∀ w1 w2 : World, Below w.heap.size w w1 → w1.heap[w.heap.size + 1]? = some (.cells #[.int .i64 0, .int .i64 0, .int .i64 0, .int .i64 0, .string ⟨#[]⟩, .slice none 0 0] 32 (0, 0)) →
        BytesPost (t.dataOf i) ⟨kind, path, tt, off, len, data⟩ (φ i) (t.links i) w1 (.returned (.tuple #[.string s, .int .i64 g])) w2 → w2.heap[w.heap.size + 1]? = some (.cells #[.int .i64 0, .int .i64 0, .int .i64 0, .int .i64 0, .string ⟨#[]⟩, .slice none 0 0] 32 (0, 0)) := by
      intro w1 w2 hb ha hP
      have := HR.out.lt_thing HOK.out (i := i) ⟨_, _, H3.out⟩
      exact hP.2.2.heap ha (by omega)
    have FIN := Lib.hid fin
    clear fin
    rcases hk with rfl | rfl | rfl
    all_goals
      go_enter Tryz.func12, Tryz.ntmps12
      go_wp2_with fail
      refine (file_any (HR.out.below HW.out) HOK.out path (hm.below HW.out) hp).mono ?_
      rintro e w1 ⟨rfl, hb⟩
      have HA1 := Lib.hid (heap_below hb _ _ HA.out)
      have HB1 := Lib.hid (below_next HW.out hb)
      have HO1 := Lib.hid (heap_below hb _ _ HOp.out)
      have gc := op_cells HO1.out
      have hbi := (HR.out.below HB1.out).file i _ H3.out
      rw [HF.out, thingV_ok rfl]
      unfold ptr
      clear hb
      go_wp2_with fail
      refine (bytes_any hbi HS.out ⟨_, path, tt, off, len, data⟩ HO.out).mono ?_
      rintro e w2 hP
      obtain ⟨he, hP2, hT⟩ := hP
      rw [HSG.out] at he
      subst he
      have hans := FIN.out w1 w2 HB1.out HA1.out ⟨by rw [HSG.out], hP2, hT⟩
      have HP2 := Lib.hid hP2
      have HT := Lib.hid hT
      clear gc hbi
      obtain ⟨g0, g1⟩ := ans_cells hans
      clear hP2 hT hans
      go_wp2
      refine bodyPost_ret (v := .agg #[.int .i64 g, .int .i64 0, .int .i64 0, .int .i64 0, .string s, .slice none 0 0]) (by simp [results, Tryz.results12, go_sem, g0]) rfl ?_
      unfold DoPost
      rw [HSt.out, (bytes_eq (o := ⟨_, path, tt, off, len, data⟩) HF.out HS.out).1, HSG.out]
      obtain ⟨r1, r2, r3⟩ := bytes_rep (HR.out.below HB1.out) HOK.out (o := ⟨_, path, tt, off, len, data⟩) HF.out HP2.out HT.out
      exact do_end (a := { code := g, data := s }) HR.out HOK.out (HOK.out.bytes _) HB1.out r1 (r2.mono (fun k _ h => Or.inl h)) (fun k hk => Or.inl (r3 k hk)) rfl _ _ _ _ _ _ rfl
  · have HE := Lib.hid (bytes_err (o := ⟨kind, path, tt, off, len, data⟩) hf h0)
    have hc0 : (c == 0) = false := beq_eq_false_iff_ne.2 h0
    have HV := Lib.hid (thingV_err (φ := φ) hf h0)
    clear hR hok ho hf h0
    rcases hk with rfl | rfl | rfl
    all_goals
      go_enter Tryz.func12, Tryz.ntmps12
      go_wp2_with fail
      refine (file_any (HR.out.below HW.out) HOK.out path (hm.below HW.out) hp).mono ?_
      rintro e w1 ⟨rfl, hb⟩
      have HA1 := Lib.hid (heap_below hb _ _ HA.out)
      have HB1 := Lib.hid (below_next HW.out hb)
      have HO1 := Lib.hid (heap_below hb _ _ HOp.out)
      have gc := op_cells HO1.out
      rw [HV.out, HF.out]
      clear gc hb
      obtain ⟨g0, g1⟩ := ans_cells HA1.out
      go_wp2
      refine bodyPost_ret (v := .agg #[.int .i64 c, .int .i64 0, .int .i64 0, .int .i64 0, .string ⟨#[]⟩, .slice none 0 0]) (by simp [results, Tryz.results12, go_sem, g0]) rfl ?_
      unfold DoPost
      rw [HSt.out, HE.out]
      exact do_end (a := { code := c, data := ofL [] }) HR.out HOK.out HOK.out HB1.out (HR.out.below HB1.out) (Turn.refl _ _) (fun k hk => Or.inl hk) rfl _ _ _ _ _ _ rfl
end
end Go.Proofs.YtcgpmnlondnbhaaGreatDoor

namespace Go.Proofs.YtcgpmnlondnbhaaGreatDoor
open Go Go.RowKit Txt Sp

theorem step_tell {t : Sp.Tree} {o : Sp.Op} (hk : o.kind = 10 ∨ o.kind = 11 ∨ o.kind = 12) : t.step o = (t, t.tell o) := by
  unfold Sp.Tree.step
  rw [if_neg (by omega), if_neg (by omega), if_neg (by omega), if_neg (by omega), if_neg (by omega), if_neg (by omega), if_neg (by omega), if_pos hk]

section
set_option maxHeartbeats 1000000
theorem tell_any {w : World} {B : Nat} {t : Sp.Tree} {φ μ : Nat → Nat} (hR : Rep w B t φ μ) (hok : t.Ok) (o : Sp.Op) (ho : OpOk o) (hm : MaxOk w) (hlinks : ∀ i, t.links i ≤ 1000000) (hk : ∀ q, (t.kidsL q).length ≤ 1000000) :
    Calls Tryz.prog 34 #[ptr B, opV o] w (TellPost (t.tell o) w) := by
  by_cases h : o.kind = 11
  · exact tell_list hR hok o ho hm hk h
  · exact tell_stat hR hok o ho hm hk hlinks h

theorem do_tell {w : World} {B : Nat} {t : Sp.Tree} {φ μ : Nat → Nat} (hR : Rep w B t φ μ) (hok : t.Ok) (o : Sp.Op) (ho : OpOk o) (hm : MaxOk w) (hlinks : ∀ i, t.links i ≤ 1000000) (hkids : ∀ q, (t.kidsL q).length ≤ 1000000) (hk : o.kind = 10 ∨ o.kind = 11 ∨ o.kind = 12) :
    Calls Tryz.prog 12 #[ptr B, opV o] w (DoPost o w B t φ μ) := by
  have HSt := Lib.hid (step_tell (t := t) hk)
  obtain ⟨kind, path, tt, off, len, data⟩ := o
  have HR := Lib.hid hR
  have HOK := Lib.hid hok
  have HO := Lib.hid ho
  have HL := Lib.hid hlinks
  have HK := Lib.hid hkids
  simp only at hk
  have HW := Lib.hid (doW_below w kind path tt off len data none)
  have HA := Lib.hid (doW_ans w kind path tt off len data none)
  have HSz : Hid ((doW w kind path tt off len data none).heap.size = w.heap.size + 3) := by
    show (doW w kind path tt off len data none).heap.size = w.heap.size + 3
    simp [doW]
  obtain ⟨a, ha⟩ : ∃ a, t.tell ⟨kind, path, tt, off, len, data⟩ = a := ⟨_, rfl⟩
  have HAn := Lib.hid ha
  clear hR hok ho hlinks hkids ha
  unfold opV
  unfold ptr
  rcases hk with rfl | rfl | rfl
  all_goals
    go_enter Tryz.func12, Tryz.ntmps12
    go_wp2_with fail
    refine (tell_any (HR.out.below HW.out) HOK.out ⟨_, path, tt, off, len, data⟩ HO.out (hm.below HW.out) HL.out HK.out).mono ?_
    rw [HAn.out]
    rintro e w1 ⟨v, rfl, ⟨nv, rfl, hnv⟩, hb⟩
    obtain ⟨ad, n, cap, rfl⟩ : ∃ ad n cap, nv = .slice ad n cap := by
      obtain ⟨_, _, ⟨h, _⟩ | ⟨_, _, _, h, _⟩⟩ := hnv <;> exact ⟨_, _, _, h⟩
    have hans := heap_below hb _ _ HA.out
    have HB := Lib.hid (below_next HW.out hb)
    have HN := Lib.hid hnv
    obtain ⟨g0, g1⟩ := ans_cells hans
    clear hnv hb hans
    go_wp2
    refine bodyPost_ret (v := .agg #[.int .i64 a.code, .int .i64 a.kind, .int .i64 a.links, .int .i64 a.size, .string a.data, .slice ad n cap]) (by simp [results, Tryz.results12, go_sem, g0]) rfl ?_
    unfold DoPost
    rw [HSt.out, HAn.out]
    have hlt : ∀ k, Rep.dom B t φ μ k → k ≠ w.heap.size + 1 := fun k hk e => by have := HR.out.dom_lt HOK.out hk; omega
    have hsz := HSz.out
    refine ⟨_, φ, μ, w.heap.size + 3, rfl, ⟨_, rfl, ?_⟩, (HR.out.below HB.out).dom_same HOK.out (fun k hk o ho => by rw [six_same w1 (hlt k hk)]; exact ho), ?_, fun _ h => Or.inl h, by omega, fun k hk => by have := HR.out.dom_lt HOK.out hk; omega⟩
    · rw [← hsz]
      exact HN.out.same (fun k hk o ho => by rw [six_same w1 (by rw [hsz] at hk; omega)]; exact ho)
    · exact ((Turn.of_below (K := fun _ => False) HB.out).trans (six_turn _ _ _ _ _ _ _ _) (fun _ _ h => h.elim) (fun k hk h => by omega))

/-- Do, of any operation. -/
theorem do_any {w : World} {B : Nat} {t : Sp.Tree} {φ μ : Nat → Nat} (hR : Rep w B t φ μ) (hok : t.Ok) (o : Sp.Op) (ho : OpOk o) (hm : MaxOk w) (hfew : t.names.length ≤ 1000000) :
    Calls Tryz.prog 12 #[ptr B, opV o] w (DoPost o w B t φ μ) := by
  have hlinks : ∀ i, t.links i ≤ 1000000 := fun i => Nat.le_trans (links_few t i) hfew
  have hkids : ∀ q, (t.kidsL q).length ≤ 1000000 := fun q => Nat.le_trans (kids_few t q) hfew
  by_cases h1 : o.kind = 1
  · exact do_create hR hok o ho hm h1
  by_cases h2 : o.kind = 2
  · exact do_mkdir hR hok o ho hm h2
  by_cases h3 : o.kind = 3
  · exact do_link hR hok o ho hm hlinks h3
  by_cases h4 : o.kind = 4
  · exact do_unlink hR hok o ho hm hlinks hkids h4
  by_cases h5 : o.kind = 5
  · exact do_rmdir hR hok o ho hm hlinks hkids h5
  by_cases h6 : o.kind = 6
  · exact do_rename hR hok o ho hm hlinks hkids h6
  by_cases h7 : o.kind = 7 ∨ o.kind = 8 ∨ o.kind = 9
  · exact do_bytes hR hok o ho hm h7
  by_cases h8 : o.kind = 10 ∨ o.kind = 11 ∨ o.kind = 12
  · exact do_tell hR hok o ho hm hlinks hkids h8
  · exact do_form hR hok o (by omega)

/-- A tree that lies in blocks from the block n on, D; nothing below n has turned since w0. -/
structure Live (w0 w : World) (B : Nat) (t : Sp.Tree) (k : Nat) (D : Nat → Prop) : Prop where
  ok : t.Ok
  few : t.names.length ≤ k
  low : Below w0.heap.size w0 w
  rep : ∃ φ μ, Rep w B t φ μ ∧ (∀ j, Rep.dom B t φ μ j → D j)
  from0 : ∀ j, D j → w0.heap.size ≤ j ∧ j < w.heap.size
  max0 : MaxOk w0
theorem Live.max {w0 w : World} {B : Nat} {t : Sp.Tree} {k : Nat} {D : Nat → Prop} (h : Live w0 w B t k D) : MaxOk w := h.max0.below h.low

theorem new_live {w0 w : World} (hb : Below w0.heap.size w0 w) (hm : MaxOk w0) : Calls Tryz.prog 6 #[] w fun e w' => ∃ B D, e = .returned (ptr B) ∧ Live w0 w' B Sp.new 0 D ∧ Below w.heap.size w w' ∧ ∀ j, D j → w.heap.size ≤ j := by
  refine (new_any w).mono ?_
  rintro e w' ⟨B, φ, μ, rfl, hR, hb', hd⟩
  refine ⟨B, Rep.dom B Sp.new φ μ, rfl, ⟨new_ok, Nat.le_refl _, hb.trans (hb'.mono hb.size), ⟨φ, μ, hR, fun _ h => h⟩, fun j hj => ⟨Nat.le_trans hb.size (hd j hj), hR.dom_lt new_ok hj⟩, hm⟩, hb', hd⟩

/-- Do, of a tree that lives. -/
theorem do_live {w0 w : World} {B : Nat} {t : Sp.Tree} {k : Nat} {D : Nat → Prop} (h : Live w0 w B t k D) (o : Sp.Op) (ho : OpOk o) (hk : k ≤ 100000) :
    Calls Tryz.prog 12 #[ptr B, opV o] w fun e w' => ∃ v D' m, e = .returned v ∧ AnsO m w' v (t.step o).2 ∧ Live w0 w' B (t.step o).1 (k + 1) D' ∧ Turn D w w' ∧ (∀ j, D' j → D j ∨ w.heap.size ≤ j) ∧ w.heap.size ≤ m ∧ ∀ j, D' j → j < m := by
  obtain ⟨φ, μ, hR, hD⟩ := h.rep
  refine (do_any hR h.ok o ho h.max (Nat.le_trans h.few (by omega))).mono ?_
  rintro e w' ⟨v, φ', μ', m, rfl, hv, hR', hT, hd, hm, hlt⟩
  have hT' : Turn D w w' := hT.mono (fun j _ hj => hD j hj)
  have hlow : Below w0.heap.size w w' := hT'.below (fun j hj => (h.from0 j hj).1) h.low.size
  refine ⟨v, Rep.dom B (t.step o).1 φ' μ', m, rfl, hv, ⟨h.ok.step o, Nat.le_trans (step_length t o) (by have := h.few; omega), h.low.trans hlow, ⟨φ', μ', hR', fun _ hj => hj⟩, fun j hj => ⟨?_, hR'.dom_lt (h.ok.step o) hj⟩, h.max0⟩, hT', fun j hj => (hd j hj).imp_left (hD j), hm, hlt⟩
  rcases hd j hj with hj | hj
  · exact (h.from0 j (hD j hj)).1
  · exact Nat.le_trans h.low.size hj
end
end Go.Proofs.YtcgpmnlondnbhaaGreatDoor
