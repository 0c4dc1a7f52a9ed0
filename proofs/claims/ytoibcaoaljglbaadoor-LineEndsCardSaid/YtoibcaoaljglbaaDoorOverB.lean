/-
  Rows of items in one block; what CompactFunc keeps of a row (comp): plain laws.
-/
import Derived.Test.YtoibcaoaljglbaaDoorOverA
namespace Go.Proofs.YtoibcaoaljglbaaDoor
open Go Go.RowKit

/-- item i of a row -/
def ItemAt (cur : Array Value) (i : Nat) (x : Item) : Prop :=
  cur[i * 3]? = some (.int .i64 x.line) ∧ cur[i * 3 + 1]? = some (.int .i64 x.col) ∧ cur[i * 3 + 2]? = some x.has.v

def putItem (cur : Array Value) (k : Nat) (x : Item) : Array Value :=
  ((cur.setIfInBounds (k * 3) (.int .i64 x.line)).setIfInBounds (k * 3 + 1) (.int .i64 x.col)).setIfInBounds (k * 3 + 2) x.has.v

theorem putItem_size (cur : Array Value) (k : Nat) (x : Item) : (putItem cur k x).size = cur.size := by simp [putItem]

theorem putItem_same {cur : Array Value} {k : Nat} (x : Item) (h : k * 3 + 2 < cur.size) : ItemAt (putItem cur k x) k x := by
  unfold putItem ItemAt
  simp only [Array.getElem?_setIfInBounds, Array.size_setIfInBounds]
  refine ⟨?_, ?_, ?_⟩
  · rw [if_neg (by omega), if_neg (by omega), if_pos trivial, if_pos (by omega)]
  · rw [if_neg (by omega), if_pos trivial, if_pos (by omega)]
  · rw [if_pos trivial, if_pos h]

theorem putItem_other {cur : Array Value} {k i : Nat} {x y : Item} (h : ItemAt cur i y) (hne : i ≠ k) : ItemAt (putItem cur k x) i y := by
  unfold putItem ItemAt at *
  simp only [Array.getElem?_setIfInBounds, Array.size_setIfInBounds]
  obtain ⟨h1, h2, h3⟩ := h
  refine ⟨?_, ?_, ?_⟩
  · rw [if_neg (by omega), if_neg (by omega), if_neg (by omega)]
    exact h1
  · rw [if_neg (by omega), if_neg (by omega), if_neg (by omega)]
    exact h2
  · rw [if_neg (by omega), if_neg (by omega), if_neg (by omega)]
    exact h3

/-- a row of ends, one behind the other, is one end -/
def comp : Bool → List Item → List Item
  | _, [] => []
  | p, x :: r => if (p && x.has.isStop) = true then comp true r else x :: comp x.has.isStop r

def lastStop (p : Bool) (l : List Item) : Bool := match l.getLast? with
  | none => p
  | some y => y.has.isStop

theorem lastStop_cons (p : Bool) (y : Item) (r : List Item) : lastStop p (y :: r) = lastStop y.has.isStop r := by
  unfold lastStop
  cases r with
  | nil => rfl
  | cons z t => simp [List.getLast?_cons]

theorem comp_snoc (l : List Item) (x : Item) : ∀ p, comp p (l ++ [x]) = comp p l ++ (if (lastStop p l && x.has.isStop) = true then [] else [x]) := by
  induction l with
  | nil =>
    intro p
    rw [show lastStop p [] = p from rfl]
    by_cases h : (p && x.has.isStop) = true
    · rw [if_pos h]
      simp only [List.nil_append, comp, if_pos h]
    · rw [if_neg h]
      simp only [List.nil_append, comp, if_neg h]
  | cons y r ih =>
    intro p
    rw [lastStop_cons, List.cons_append]
    simp only [comp]
    by_cases h : (p && y.has.isStop) = true
    · rw [if_pos h, if_pos h, ih]
      have : y.has.isStop = true := (Bool.and_eq_true_iff.1 h).2
      rw [this]
    · rw [if_neg h, if_neg h, ih]
      rfl

theorem comp_take_succ (its : List Item) (j : Nat) (x y : Item) (hx : its[j + 1]? = some x) (hy : its[j]? = some y) :
    comp false (its.take (j + 2)) = comp false (its.take (j + 1)) ++ (if twoStops x y = true then [] else [x]) := by
  have e : its.take (j + 2) = its.take (j + 1) ++ [x] := by rw [List.take_add_one, hx]; rfl
  have e2 : its.take (j + 1) = its.take j ++ [y] := by rw [List.take_add_one, hy]; rfl
  rw [e, comp_snoc]
  have : lastStop false (its.take (j + 1)) = y.has.isStop := by rw [e2]; simp [lastStop]
  rw [this]
  have : (y.has.isStop && x.has.isStop) = twoStops x y := by unfold twoStops; exact Bool.and_comm _ _
  rw [this]

theorem comp_take_one (its : List Item) : comp false (its.take 1) = its.take 1 := by
  cases its with
  | nil => rfl
  | cons x r => simp [comp]

theorem comp_length_le (l : List Item) : ∀ p, (comp p l).length ≤ l.length := by
  induction l with
  | nil => intro p; simp [comp]
  | cons x r ih =>
    intro p
    simp only [comp]
    split
    · exact Nat.le_succ_of_le (ih true)
    · exact Nat.succ_le_succ (ih _)

/-- the row of a slice lies in block g, known whole -/
structure RowF (w : World) (g cap : Nat) (cur : Array Value) : Prop where
  blk : w.heap[g]? = some (.cells cur 70 (0, 0))
  size : cur.size = cap * 3

theorem RowF.cell {w : World} {g cap : Nat} {cur : Array Value} (h : RowF w g cap cur) (i : Nat) : w.cell? ⟨g, i, none⟩ = cur[i]? := blk_cell h.blk i

theorem RowF.free {w : World} {g cap : Nat} {cur : Array Value} (h : RowF w g cap cur) (i : Nat) : w.frozen? ⟨g, i, none⟩ = false := blk_free h.blk i

theorem RowF.keep0 {w w' : World} {g cap : Nat} {cur : Array Value} (h : RowF w g cap cur) (hk : Keeps (fun _ => False) w w') : RowF w' g cap cur := ⟨hk.heap h.blk (by simp), h.size⟩

theorem RowF.put {w : World} {g cap : Nat} {cur : Array Value} (h : RowF w g cap cur) (k : Nat) (x : Item) :
    RowF (((w.setCell ⟨g, k * 3, none⟩ (.int .i64 x.line)).setCell ⟨g, k * 3 + 1, none⟩ (.int .i64 x.col)).setCell ⟨g, k * 3 + 2, none⟩ x.has.v) g cap (putItem cur k x) :=
  ⟨blk_set (blk_set (blk_set h.blk _ _) _ _) _ _, by rw [putItem_size]; exact h.size⟩

end Go.Proofs.YtoibcaoaljglbaaDoor
