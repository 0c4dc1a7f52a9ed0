
/-
  Plain laws of word.Read's words and of line.Over's items: what LineAll wants.
-/
import Derived.Test.YtfpjdgobannneaaDoorOverF
namespace Go.Proofs.YtfpjdgobannneaaDoor
open Go Go.RowKit

/-- a word as word.Read tells one -/
def Wd.Ok (x : Wd) : Prop := (x.kind = 1 ∨ x.kind = 2 ∨ x.kind = 3 ∨ x.kind = 4) ∧ (x.kind = 2 → -1099511627776 ≤ x.n ∧ x.n ≤ 1099511627776)

def Rd.Good (st : Rd) : Prop := st.wrong = 0 → ∀ x ∈ st.words, x.Ok

theorem Rd.Good.of_fail (st : Rd) (e l c : Int) (he : e ≠ 0) : (st.fail e l c).wrong ≠ 0 := by
  unfold Rd.fail
  split
  · exact he
  · assumption

theorem Rd.Good.bad {st : Rd} (h : st.wrong ≠ 0) : st.Good := fun h0 => absurd h0 h

theorem Rd.Good.same {st st' : Rd} (h : st.Good) (h1 : st'.wrong = st.wrong) (h2 : st'.words = st.words) : st'.Good := by
  intro h0
  rw [h1] at h0
  rw [h2]
  exact h h0

theorem Rd.Good.put {st : Rd} (h : st.Good) (k : Int) (s : ByteArray) (n : Int) (hk : st.wrong = 0 → (k = 1 ∨ k = 2 ∨ k = 3 ∨ k = 4) ∧ (k = 2 → -1099511627776 ≤ n ∧ n ≤ 1099511627776)) : (st.put k s n).Good := by
  intro h0 x hx
  have h1 : st.wrong = 0 := h0
  rcases List.mem_append.1 (show x ∈ st.words ++ [⟨k, s, n, st.fl, st.fc⟩] from hx) with h2 | h2
  · exact h h1 x h2
  · simp at h2
    subst h2
    exact hk h1

theorem Rd.Good.fail {st : Rd} (e l c : Int) (he : e ≠ 0) : (st.fail e l c).Good := Rd.Good.bad (Rd.Good.of_fail st e l c he)

theorem Rd.Good.close1 {st : Rd} (h : st.Good) : st.close1.Good := by
  unfold Rd.close1
  split
  · split
    · exact Rd.Good.put (Rd.Good.fail _ _ _ (by decide)) _ _ _ (fun h0 => absurd h0 (Rd.Good.of_fail _ _ _ _ (by decide)))
    · exact h.put _ _ _ (fun _ => ⟨Or.inl rfl, fun h => absurd h (by decide)⟩)
  · split
    · split
      · exact Rd.Good.put (Rd.Good.fail _ _ _ (by decide)) _ _ _ (fun h0 => absurd h0 (Rd.Good.of_fail _ _ _ _ (by decide)))
      · rename_i hn
        refine h.put _ _ _ (fun _ => ⟨Or.inr (Or.inl rfl), fun _ => ?_⟩)
        simp only [not_or] at hn
        omega
    · split
      · exact Rd.Good.fail _ _ _ (by decide)
      · exact h

theorem Rd.Good.close {st : Rd} (h : st.Good) : st.close.Good := h.close1.same rfl rfl

theorem Rd.Good.begin {st : Rd} (h : st.Good) (c : Int) : (st.begin c).Good := by
  have hf : (st.fresh c).Good := h.same rfl rfl
  unfold Rd.begin
  repeat' split
  all_goals first
    | exact hf.same rfl rfl
    | exact hf.put _ _ _ (fun _ => ⟨Or.inr (Or.inr (Or.inr rfl)), fun h => absurd h (by decide)⟩)
    | exact hf.put _ _ _ (fun _ => ⟨Or.inr (Or.inr (Or.inl rfl)), fun h => absurd h (by decide)⟩)
    | exact Rd.Good.fail _ _ _ (by decide)

theorem Rd.Good.take {st : Rd} (h : st.Good) (c : Int) : (st.take c).Good := by
  unfold Rd.take
  split
  · split
    · exact Rd.Good.begin (st := { st with state := 0 }) (h.same rfl rfl) _
    · exact h
  · split
    · exact h.same rfl rfl
    · split
      · exact h.same rfl rfl
      · split
        · exact Rd.Good.begin (Rd.Good.close (Rd.Good.fail _ _ _ (by decide))) _
        · exact h.close.begin _

theorem Rd.Good.over {st : Rd} (h : st.Good) (r : Int) : (st.over r).Good := by
  unfold Rd.over
  split
  · exact h.same rfl rfl
  · exact h.same rfl rfl

theorem Rd.Good.look {st : Rd} (h : st.Good) (b : Bool) : (st.look b).Good := by
  unfold Rd.look
  split
  · exact Rd.Good.fail _ _ _ (by decide)
  · exact h

theorem rdLoop_good (s : ByteArray) : ∀ (f k : Nat) (st : Rd), st.Good → (rdLoop s f k st).Good
  | 0, _, _, h => h
  | f + 1, k, st, h => by
    rw [rdLoop]
    split
    · split
      · exact rdLoop_good s f _ _ (((h.look _).take _).over _)
      · exact h.look _
    · exact h

theorem wordRead_ok (s : ByteArray) : ∀ x ∈ (wordRead s).1, x.Ok := by
  have h0 : Rd.init.Good := fun _ x hx => by simp [Rd.init] at hx
  have h : (rdAll s).Good := (rdLoop_good s _ _ _ h0).close
  unfold wordRead
  split
  · rename_i hw
    exact h hw
  · intro x hx
    simp at hx

/-- the items of a row, ends ahead, behind and twice left out; o: something was told; p: an end lies behind it -/
def goIt : Bool → Option Item → List Item → List Item
  | _, _, [] => []
  | o, p, x :: r => if x.has.isStop = true then (if o = true then goIt o (p <|> some x) r else goIt o p r) else p.toList ++ x :: goIt true none r

def dropStop (a : List Item) : List Item := if lastStop false a = true then a.dropLast else a

theorem dropStop_cons {x : Item} (hx : x.has.isStop = false) (a : List Item) : dropStop (x :: a) = x :: dropStop a := by
  unfold dropStop
  cases a with
  | nil => simp [lastStop, hx]
  | cons y r =>
    rw [lastStop_cons, lastStop_cons, lastStop_cons]
    split
    · simp
    · rfl

theorem dropStop_two {z x : Item} (hx : x.has.isStop = false) (a : List Item) : dropStop (z :: x :: a) = z :: x :: dropStop a := by
  have h := dropStop_cons hx a
  unfold dropStop at h ⊢
  rw [lastStop_cons, lastStop_cons]
  rw [lastStop_cons] at h
  split
  · rename_i h1
    rw [if_pos h1] at h
    rw [List.dropLast_cons_of_ne_nil (by simp), h]
  · rename_i h1
    rw [if_neg h1] at h
    rw [h]

theorem goIt_open (l : List Item) : dropStop (comp false l) = goIt true none l ∧ ∀ z : Item, z.has.isStop = true → dropStop (z :: comp true l) = goIt true (some z) l := by
  induction l with
  | nil => exact ⟨rfl, fun z hz => by simp [comp, dropStop, lastStop, hz, goIt]⟩
  | cons x r ih =>
    obtain ⟨h1, h2⟩ := ih
    cases hx : x.has.isStop with
    | true =>
      refine ⟨?_, fun z hz => ?_⟩
      · simp only [comp, goIt, hx, Bool.false_and, Bool.false_eq_true, if_false, if_true]
        exact h2 x hx
      · simp only [comp, goIt, hx, Bool.true_and, if_true]
        exact h2 z hz
    | false =>
      refine ⟨?_, fun z hz => ?_⟩
      · simp only [comp, goIt, hx, Bool.false_and, Bool.false_eq_true, if_false]
        rw [dropStop_cons hx, h1]
        rfl
      · simp only [comp, goIt, hx, Bool.and_false, Bool.false_eq_true, if_false]
        rw [dropStop_two hx, h1]
        rfl

theorem goIt_shut (l : List Item) : dropStop (comp true l) = goIt false none l := by
  induction l with
  | nil => rfl
  | cons x r ih =>
    cases hx : x.has.isStop with
    | true =>
      simp only [comp, goIt, hx, Bool.true_and, Bool.false_eq_true, if_false, if_true]
      exact ih
    | false =>
      simp only [comp, goIt, hx, Bool.and_false, Bool.false_eq_true, if_false]
      rw [dropStop_cons hx, (goIt_open r).1]
      rfl

theorem overTail_go (l : List Item) : overTail (comp false l) = goIt false none l := by
  cases l with
  | nil => rfl
  | cons x r =>
    have e : overTail (comp false (x :: r)) = dropStop (if firstStop (comp false (x :: r)) = true then (comp false (x :: r)).tail else comp false (x :: r)) := rfl
    rw [e]
    cases hx : x.has.isStop with
    | true =>
      simp only [comp, firstStop, goIt, hx, Bool.false_and, Bool.false_eq_true, if_false, if_true, List.tail_cons]
      exact goIt_shut r
    | false =>
      simp only [comp, firstStop, goIt, hx, Bool.false_and, Bool.false_eq_true, if_false]
      rw [dropStop_cons hx, (goIt_open r).1]
      rfl

theorem overItems_go (l : List Wd) : overItems l = goIt false none (l.map Wd.item) := overTail_go _

theorem bytes_beq (s t : ByteArray) : (s == t) = decide (s = t) := by
  obtain ⟨s⟩ := s
  obtain ⟨t⟩ := t
  show (s == t) = _
  by_cases h : s = t
  · subst h; simp
  · simp [h]

theorem eqb_self (s : ByteArray) : (s == s) = true := by rw [bytes_beq]; simp

theorem Wd.stop_iff {x : Wd} (h : x.Ok) : x.item.has.isStop = true ↔ x.kind = 4 := by
  obtain ⟨kind, text, n, line, col⟩ := x
  obtain ⟨h, _⟩ := h
  simp only at h
  rcases h with rfl | rfl | rfl | rfl <;> simp [Wd.item, Wd.has, Has.isStop]

end Go.Proofs.YtfpjdgobannneaaDoor
