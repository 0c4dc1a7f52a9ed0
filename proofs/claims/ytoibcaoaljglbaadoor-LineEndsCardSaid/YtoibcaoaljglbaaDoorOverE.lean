/-
  The loop of Over: words become items.
-/
import Derived.Test.YtoibcaoaljglbaaDoorOverD
namespace Go.Proofs.YtoibcaoaljglbaaDoor
open Go Go.RowKit

def Wd.item (x : Wd) : Item := ⟨x.line, x.col, x.has⟩

def Item.cells (x : Item) : List Value := [.int .i64 x.line, .int .i64 x.col, x.has.v]

def icells (l : List Item) : List Value := l.flatMap Item.cells

theorem wcells_at (l : List Wd) : ∀ (i : Nat) (x : Wd), l[i]? = some x → (wcells l)[i * 5]? = some (.int .i64 x.kind) ∧ (wcells l)[i * 5 + 1]? = some (.string x.text) ∧ (wcells l)[i * 5 + 2]? = some (.int .i64 x.n) ∧
    (wcells l)[i * 5 + 3]? = some (.int .i64 x.line) ∧ (wcells l)[i * 5 + 4]? = some (.int .i64 x.col) := by
  induction l with
  | nil => intro i x h; simp at h
  | cons y r ih =>
    intro i x h
    cases i with
    | zero =>
      simp at h
      subst h
      exact ⟨rfl, rfl, rfl, rfl, rfl⟩
    | succ i =>
      obtain ⟨h0, h1, h2, h3, h4⟩ := ih i x (by simpa using h)
      have e : ∀ j, (wcells (y :: r))[(i + 1) * 5 + j]? = (wcells r)[i * 5 + j]? := by
        intro j
        show (y.cells ++ wcells r)[(i + 1) * 5 + j]? = _
        rw [List.getElem?_append_right (by show 5 ≤ _; omega)]
        congr 1
        show (i + 1) * 5 + j - 5 = _
        omega
      exact ⟨(e 0).trans h0, (e 1).trans h1, (e 2).trans h2, (e 3).trans h3, (e 4).trans h4⟩

theorem icells_at (l : List Item) : ∀ (i : Nat) (x : Item), l[i]? = some x → (icells l)[i * 3]? = some (.int .i64 x.line) ∧ (icells l)[i * 3 + 1]? = some (.int .i64 x.col) ∧ (icells l)[i * 3 + 2]? = some x.has.v := by
  induction l with
  | nil => intro i x h; simp at h
  | cons y r ih =>
    intro i x h
    cases i with
    | zero =>
      simp at h
      subst h
      exact ⟨rfl, rfl, rfl⟩
    | succ i =>
      obtain ⟨h0, h1, h2⟩ := ih i x (by simpa using h)
      have e : ∀ j, (icells (y :: r))[(i + 1) * 3 + j]? = (icells r)[i * 3 + j]? := by
        intro j
        show (y.cells ++ icells r)[(i + 1) * 3 + j]? = _
        rw [List.getElem?_append_right (by show 3 ≤ _; omega)]
        congr 1
        show (i + 1) * 3 + j - 3 = _
        omega
      exact ⟨(e 0).trans h0, (e 1).trans h1, (e 2).trans h2⟩

theorem Item.one (x : Item) : ∀ u ∈ x.cells, u.oneCell' = true := by
  intro u hu
  simp [Item.cells] at hu
  rcases hu with rfl | rfl | rfl
  · rfl
  · rfl
  · cases x.has <;> rfl

theorem info_item : (Tryd.prog.info? 70).map (fun i => (i.zero, i.size, i.bytes)) = some (some (.agg #[.int .i64 0, .int .i64 0, .nilIface]), 3, 32) := by kernel_rfl

/-- a cell of a word of a row that is owned -/
theorem own_word {w : World} {base : Nat} {wA : Option Addr} {wc : Nat} {l : List Wd} (h : w.ownsRow base 33 5 (.slice wA l.length wc) l.length (wcells l)) {i : Nat} {x : Wd} (hi : l[i]? = some x) :
    ∃ g, wA = some ⟨g, 0, none⟩ ∧ base ≤ g ∧ w.cell? ⟨g, i * 5, none⟩ = some (.int .i64 x.kind) ∧ w.cell? ⟨g, i * 5 + 1, none⟩ = some (.string x.text) ∧ w.cell? ⟨g, i * 5 + 2, none⟩ = some (.int .i64 x.n) ∧
      w.cell? ⟨g, i * 5 + 3, none⟩ = some (.int .i64 x.line) ∧ w.cell? ⟨g, i * 5 + 4, none⟩ = some (.int .i64 x.col) := by
  have hlt : i < l.length := (List.getElem?_eq_some_iff.1 hi).1
  obtain ⟨g, cap, hv, hg, _⟩ := h.form (by omega)
  simp only [Value.slice.injEq] at hv
  obtain ⟨rfl, _, rfl⟩ := hv
  obtain ⟨h0, h1, h2, h3, h4⟩ := wcells_at l i x hi
  have hc := fun j u (hu : (wcells l)[j]? = some u) => h.cells (g := g) rfl j u hu
  have ha : ∀ j, (⟨g, 0, none⟩ : Addr).add j = ⟨g, j, none⟩ := by intro j; unfold Addr.add; split <;> simp_all
  refine ⟨g, rfl, hg, ?_, ?_, ?_, ?_, ?_⟩
  · rw [← ha]; exact hc _ _ h0
  · rw [← ha]; exact hc _ _ h1
  · rw [← ha]; exact hc _ _ h2
  · rw [← ha]; exact hc _ _ h3
  · rw [← ha]; exact hc _ _ h4

/-- the loop's relation: k words are items -/
structure OvAt (w w' : World) (l : List Wd) (wA : Option Addr) (wc : Nat) (its : List Item) (A : Option Addr) (c : Nat) : Prop where
  blk : w'.heap[w.heap.size]? = some (CurBlk A c ⟨its, 0, 0, 0⟩)
  own : w'.ownsRow (w.heap.size + 1) 70 3 (.slice A its.length c) its.length (icells its)
  words : w'.ownsRow (w.heap.size + 1) 33 5 (.slice wA l.length wc) l.length (wcells l)
  keep : Keeps (fun _ => False) w w'

theorem OvAt.keep0 {w w1 w2 : World} {l : List Wd} {wA : Option Addr} {wc : Nat} {its : List Item} {A : Option Addr} {c : Nat} (h : OvAt w w1 l wA wc its A c) (hk : Keeps (fun _ => False) w1 w2) : OvAt w w2 l wA wc its A c :=
  ⟨hk.heap h.blk (by simp), own_keep0 h.own hk, own_keep0 h.words hk, h.keep.trans hk⟩

/-- behind an append to the items, and the store into the cursor -/
theorem OvAt.fin {w w1 w2 : World} {l : List Wd} {wA : Option Addr} {wc : Nat} {its : List Item} {A : Option Addr} {c : Nat} (h : OvAt w w1 l wA wc its A c) (x : Item) {g cap : Nat}
    (hw : w2.ownsRow (w.heap.size + 1) 70 3 (.slice (some ⟨g, 0, none⟩) (its.length + 1) cap) (its.length + 1) (icells its ++ x.cells))
    (hg : w1.grownBy w2 (Value.slice A its.length c).ownBlock) :
    w2.heap[w.heap.size]? = some (CurBlk A c ⟨its, 0, 0, 0⟩) ∧ OvAt w (w2.setCell ⟨w.heap.size, 0, none⟩ (.slice (some ⟨g, 0, none⟩) (its.length + 1) cap)) l wA wc (its ++ [x]) (some ⟨g, 0, none⟩) cap := by
  have hb : w2.heap[w.heap.size]? = some (CurBlk A c ⟨its, 0, 0, 0⟩) := by
    rw [hg.block _ (lt_of_heap h.blk) (fun e => own_ne h.own h.blk (by decide) e.symm)]
    exact h.blk
  refine ⟨hb, ?_, ?_, ?_, ?_⟩
  · have := blk_set hb 0 (.slice (some ⟨g, 0, none⟩) (its.length + 1) cap)
    rw [this]
    simp [CurBlk]
  · have h2 := own_set hw (b := w.heap.size) (own_ne hw hb (by decide)) 0 (.slice (some ⟨g, 0, none⟩) (its.length + 1) cap)
    have e : icells (its ++ [x]) = icells its ++ x.cells := by simp [icells]
    simp only [List.length_append, List.length_cons, List.length_nil]
    rw [e]
    exact h2
  · have h1 := World.ownsRow.kept (w := w1) h.words hg (own_apart h.words h.own (by decide))
    exact own_set h1 (own_ne h.words h.blk (by decide)) 0 _
  · refine Keeps.setCell ?_ (p := ⟨w.heap.size, 0, none⟩) (Or.inr (Nat.le_refl _)) _
    exact h.keep.grown hg (fun k hk => Or.inr (by have := own_ge h.own k hk; omega))

end Go.Proofs.YtoibcaoaljglbaaDoor
