/-
  A tree of one file: what its operations answer. The chapter's example. How long a tree grows. No program in this text.
-/
import Derived.Test.YtcgpmnlondnbhaaDoorSpStep
namespace Go.Proofs.YtcgpmnlondnbhaaDoor.Sp
open Go Txt

def pf : ByteArray := ⟨#[47, 102]⟩
def nf : ByteArray := ⟨#[102]⟩
def noText : ByteArray := ⟨#[]⟩
/-- A tree of one file, f. -/
def fileT (d : ByteArray) : Tree := ⟨[([nf], 1)], [(0, true, noText), (1, false, d)], 1⟩
theorem split_pf : splitN pf = ([nf], 0) := by decide
theorem fileT_isDir0 (d : ByteArray) : (fileT d).isDir 0 = true := rfl
theorem fileT_isDir1 (d : ByteArray) : (fileT d).isDir 1 = false := rfl
theorem fileT_data (d : ByteArray) : (fileT d).dataOf 1 = d := rfl
theorem fileT_find (d : ByteArray) : (fileT d).find [nf] = some 1 := by unfold Tree.find fileT; simp
theorem fileT_at (d : ByteArray) : (fileT d).at pf = (1, 0) := by
  unfold Tree.at
  rw [split_pf, if_pos rfl]
  unfold Tree.walk
  rw [if_pos (fileT_isDir0 d)]
  rw [show ([] : List ByteArray) ++ [nf] = [nf] from rfl, fileT_find]
  rfl
theorem fileT_file (d : ByteArray) : (fileT d).file pf = (1, 0) := by
  unfold Tree.file
  rw [fileT_at, if_pos rfl, if_neg (by rw [fileT_isDir1]; simp)]
theorem fileT_set (d e : ByteArray) : (fileT d).set 1 e = fileT e := rfl
theorem step_first : Sp.new.step ⟨1, pf, noText, 0, 0, noText⟩ = (fileT noText, {}) := by
  have h : Sp.new.make pf false = (fileT noText, 0) := by rfl
  unfold Tree.step
  rw [if_pos rfl, h]

section
variable (d : ByteArray)
theorem step_trunc {n : Nat} (h : n ≤ 2560) : (fileT d).step ⟨9, pf, noText, 0, n, noText⟩ = (fileT (ofL (stretch d.data.toList n)), {}) := by
  have hb : (fileT d).bytes ⟨9, pf, noText, 0, n, noText⟩ = (fileT (ofL (stretch d.data.toList n)), ofL [], 0) := by
    unfold Tree.bytes
    simp only
    rw [fileT_file, if_pos rfl, if_neg (by omega), if_neg (by omega), if_neg (by omega), if_neg (by omega)]
    rfl
  unfold Tree.step
  simp only
  rw [hb]
  rfl
theorem step_write {n : Nat} {s : ByteArray} (h : n ≤ 2560) (hs : s.size ≠ 0) (hf : s.size ≤ 2560 - n) : (fileT d).step ⟨8, pf, noText, n, 0, s⟩ = (fileT (ofL (writeL d.data.toList n s.data.toList)), {}) := by
  have hb : (fileT d).bytes ⟨8, pf, noText, n, 0, s⟩ = (fileT (ofL (writeL d.data.toList n s.data.toList)), ofL [], 0) := by
    unfold Tree.bytes
    simp only
    rw [fileT_file, if_pos rfl, if_neg (by omega), if_pos trivial, if_neg (by omega), if_neg (by omega), if_neg hs]
    rfl
  unfold Tree.step
  simp only
  rw [hb]
  rfl
theorem step_big {n : Nat} {s : ByteArray} (h : n ≤ 2560) (hf : 2560 - n < s.size) : (fileT d).step ⟨8, pf, noText, n, 0, s⟩ = (fileT d, { code := 106 }) := by
  have hb : (fileT d).bytes ⟨8, pf, noText, n, 0, s⟩ = (fileT d, ofL [], 106) := by
    unfold Tree.bytes
    simp only
    rw [fileT_file, if_pos rfl, if_neg (by omega), if_pos trivial, if_neg (by omega), if_pos (by omega)]
  unfold Tree.step
  simp only
  rw [hb]
  rfl
theorem step_read (off len : Nat) : (fileT d).step ⟨7, pf, noText, off, len, noText⟩ = (fileT d, { data := ofL (piece d.data.toList off len) }) := by
  have hb : (fileT d).bytes ⟨7, pf, noText, off, len, noText⟩ = (fileT d, ofL (piece d.data.toList off len), 0) := by
    unfold Tree.bytes
    simp only
    rw [fileT_file, if_pos rfl, if_pos trivial, if_neg (by omega)]
    rfl
  unfold Tree.step
  simp only
  rw [hb]
  rfl
theorem step_stat : (fileT d).step ⟨10, pf, noText, 0, 0, noText⟩ = (fileT d, { kind := 1, links := 1, size := d.size }) := by
  have hb : (fileT d).tell ⟨10, pf, noText, 0, 0, noText⟩ = { kind := 1, links := 1, size := d.size } := by
    unfold Tree.tell
    simp only
    rw [fileT_at, if_pos rfl, if_pos trivial, if_neg (by rw [fileT_isDir1]; simp), fileT_data]
    rfl
  unfold Tree.step
  simp only
  rw [hb]
  rfl
end

/-- How a write lays its bytes: stretched, then copied over. -/
theorem writeL_over (d : List UInt8) (n : Nat) (s : List UInt8) : (stretch d (max d.length (n + s.length))).take n ++ (s ++ (stretch d (max d.length (n + s.length))).drop (n + s.length)) = writeL d n s := by
  unfold writeL
  rw [List.append_assoc]

/-- An operation makes a tree longer by one name at most. -/
theorem move_length (t : Tree) (dir : Bool) (p q : List ByteArray) : (t.move dir p q).names.length = t.names.length := List.length_map _
theorem forget_length (t : Tree) (p : List ByteArray) : (t.forget p).names.length ≤ t.names.length := by
  unfold Tree.forget
  cases t.find p with
  | none => exact Nat.le_refl _
  | some i =>
    simp only
    split <;> exact List.length_filter_le _ _
theorem set_length (t : Tree) (i : Nat) (d : ByteArray) : (t.set i d).names.length = t.names.length := rfl
theorem step_length (t : Tree) (o : Op) : (t.step o).1.names.length ≤ t.names.length + 1 := by
  unfold Tree.step
  split
  · simp only; unfold Tree.make; split
    · split
      · exact Nat.le_succ _
      · simp
    · exact Nat.le_succ _
  split
  · simp only; unfold Tree.make; split
    · split
      · exact Nat.le_succ _
      · simp
    · exact Nat.le_succ _
  split
  · simp only; unfold Tree.link; split
    · split
      · exact Nat.le_succ _
      · split
        · split
          · exact Nat.le_succ _
          · split
            · exact Nat.le_succ _
            · simp
        · exact Nat.le_succ _
    · exact Nat.le_succ _
  have hrem : ∀ path dir, (t.remove path dir).1.names.length ≤ t.names.length + 1 := by
    intro path dir
    unfold Tree.remove
    split
    · split
      · exact Nat.le_succ _
      · split
        · exact Nat.le_succ _
        · split
          · exact Nat.le_succ _
          · split
            · exact Nat.le_succ _
            · exact Nat.le_succ_of_le (forget_length _ _)
    · exact Nat.le_succ _
  split
  · exact hrem _ _
  split
  · exact hrem _ _
  split
  · simp only; unfold Tree.rename; split
    · split
      · exact Nat.le_succ _
      · split
        · split
          · exact Nat.le_succ _
          · split
            · split
              · rw [move_length]; exact Nat.le_succ _
              · split
                · exact Nat.le_succ _
                · split
                  · exact Nat.le_succ _
                  · split
                    · exact Nat.le_succ _
                    · split
                      · exact Nat.le_succ _
                      · rw [move_length]; exact Nat.le_succ_of_le (forget_length _ _)
            · exact Nat.le_succ _
        · exact Nat.le_succ _
    · exact Nat.le_succ _
  split
  · simp only; unfold Tree.bytes; split
    · split
      · split <;> exact Nat.le_succ _
      · split
        · split
          · exact Nat.le_succ _
          · split
            · exact Nat.le_succ _
            · split
              · exact Nat.le_succ _
              · rw [set_length]; exact Nat.le_succ _
        · split
          · exact Nat.le_succ _
          · split
            · exact Nat.le_succ _
            · rw [set_length]; exact Nat.le_succ _
    · exact Nat.le_succ _
  split
  · exact Nat.le_succ _
  · exact Nat.le_succ _
theorem links_few (t : Tree) (i : Nat) : t.links i ≤ t.names.length := List.countP_le_length
theorem kids_few (t : Tree) (p : List ByteArray) : (t.kidsL p).length ≤ t.names.length := List.length_filterMap_le _ _

/-- The trees behind operations. -/
def Tree.steps (t : Tree) (l : List Op) : Tree := l.foldl (fun t o => (t.step o).1) t
theorem steps_snoc (t : Tree) (l : List Op) (o : Op) : t.steps (l ++ [o]) = ((t.steps l).step o).1 := by
  unfold Tree.steps
  rw [List.foldl_append]
  rfl
theorem steps_ok {t : Tree} (h : t.Ok) : ∀ (l : List Op), (t.steps l).Ok := by
  intro l
  induction l generalizing t with
  | nil => exact h
  | cons o r ih => exact ih (h.step o)
theorem steps_length (t : Tree) : ∀ (l : List Op), (t.steps l).names.length ≤ t.names.length + l.length := by
  intro l
  induction l generalizing t with
  | nil => exact Nat.le_refl _
  | cons o r ih =>
    have h1 := ih (t.step o).1
    have h2 := step_length t o
    show ((t.step o).1.steps r).names.length ≤ _
    rw [List.length_cons]
    omega

/-- The chapter's example. -/
def pa : ByteArray := ⟨#[47, 97]⟩
def paf : ByteArray := ⟨#[47, 97, 47, 102]⟩
def na : ByteArray := ⟨#[97]⟩
def exT (l : List UInt8) : Tree := ⟨[([na], 1), ([na, nf], 2)], [(0, true, noText), (1, true, noText), (2, false, ofL l)], 2⟩
theorem ex1 : Sp.new.step ⟨2, pa, noText, 0, 0, noText⟩ = (⟨[([na], 1)], [(0, true, noText), (1, true, noText)], 1⟩, {}) := by
  have h : Sp.new.make pa true = (⟨[([na], 1)], [(0, true, noText), (1, true, noText)], 1⟩, 0) := by rfl
  unfold Tree.step
  simp only
  rw [h]
  rfl
theorem ex2 : (⟨[([na], 1)], [(0, true, noText), (1, true, noText)], 1⟩ : Tree).step ⟨1, paf, noText, 0, 0, noText⟩ = (exT [], {}) := by
  have h : (⟨[([na], 1)], [(0, true, noText), (1, true, noText)], 1⟩ : Tree).make paf false = (exT [], 0) := by rfl
  unfold Tree.step
  simp only
  rw [h]
  rfl
theorem ex3 : (exT []).step ⟨8, paf, noText, 2, 0, ⟨#[120, 121]⟩⟩ = (exT [0, 0, 120, 121], {}) := by
  have h : (exT []).bytes ⟨8, paf, noText, 2, 0, ⟨#[120, 121]⟩⟩ = (exT [0, 0, 120, 121], noText, 0) := by rfl
  unfold Tree.step
  simp only
  rw [h]
  rfl
theorem ex4 : (exT [0, 0, 120, 121]).step ⟨7, paf, noText, 0, 9, noText⟩ = (exT [0, 0, 120, 121], { data := ⟨#[0, 0, 120, 121]⟩ }) := by
  have h : (exT [0, 0, 120, 121]).bytes ⟨7, paf, noText, 0, 9, noText⟩ = (exT [0, 0, 120, 121], ⟨#[0, 0, 120, 121]⟩, 0) := by rfl
  unfold Tree.step
  simp only
  rw [h]
  rfl
end Go.Proofs.YtcgpmnlondnbhaaDoor.Sp
