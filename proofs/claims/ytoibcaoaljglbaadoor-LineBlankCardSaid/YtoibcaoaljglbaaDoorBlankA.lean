/-
  Two cursors that tell the same: plain laws.
-/
import Derived.Test.YtoibcaoaljglbaaDoorRuneE
namespace Go.Proofs.YtoibcaoaljglbaaDoor
open Go Go.RowKit

/-- two cursors that tell the same, places apart -/
def AC (c d : Cur) : Prop := c.wrong = d.wrong ∧ c.items.map (·.has) = d.items.map (·.has)

theorem overCur_alike {s t : ByteArray} (h : Alike (rdAll s) (rdAll t)) : AC (overCur s) (overCur t) := by
  have hw := h.wrong
  unfold overCur wordRead
  by_cases h0 : (rdAll s).wrong = 0
  · have h0' : (rdAll t).wrong = 0 := by rw [← hw]; exact h0
    rw [if_pos h0, if_pos h0']
    simp only [if_true]
    refine ⟨rfl, ?_⟩
    rw [overItems_go, overItems_go, goIt_goH _ _ _ (by simp) (by simp), goIt_goH _ _ _ (by simp) (by simp)]
    have hs := congrArg Prod.fst (h.say h0)
    have e : ∀ l : List Wd, (l.map Wd.item).map (·.has) = hasOf l := fun l => by simp [hasOf, Wd.item]
    rw [e, e]
    exact hs
  · have h0' : (rdAll t).wrong ≠ 0 := by rw [← hw]; exact h0
    rw [if_neg h0, if_neg h0']
    simp only [if_neg h0, if_neg h0']
    exact ⟨hw, rfl⟩

theorem AC.cases {c d : Cur} (h : AC c d) : (c.items = [] ∧ d.items = []) ∨ ∃ x r y s, c.items = x :: r ∧ d.items = y :: s ∧ x.has = y.has ∧ r.map (·.has) = s.map (·.has) := by
  obtain ⟨_, h⟩ := h
  cases hc : c.items with
  | nil =>
    rw [hc] at h
    exact Or.inl ⟨rfl, by simpa using h.symm⟩
  | cons x r =>
    rw [hc] at h
    cases hd : d.items with
    | nil => rw [hd] at h; simp at h
    | cons y s =>
      rw [hd] at h
      simp at h
      exact Or.inr ⟨x, r, y, s, rfl, rfl, h.1, h.2⟩

theorem AC.more {c d : Cur} (h : AC c d) : c.more = d.more := by
  unfold Cur.more
  rw [h.1]
  rcases h.cases with ⟨h1, h2⟩ | ⟨x, r, y, s, h1, h2, _⟩ <;> rw [h1, h2] <;> rfl

theorem AC.err {c d : Cur} (h : AC c d) : c.err.2.2 = d.err.2.2 := by
  unfold Cur.err
  rw [← h.1]
  by_cases hw : c.wrong = 0
  · rw [if_pos hw, if_pos hw]
    rcases h.cases with ⟨h1, h2⟩ | ⟨x, r, y, s, h1, h2, _⟩ <;> rw [h1, h2] <;> rfl
  · rw [if_neg hw, if_neg hw]

theorem AC.is {c d : Cur} (h : AC c d) (x : Has) : c.is x = d.is x := by
  unfold Cur.is
  rw [h.1]
  rcases h.cases with ⟨h1, h2⟩ | ⟨y, r, z, s, h1, h2, h3, _⟩
  · rw [h1, h2]
  · rw [h1, h2]
    simp only [h3]

theorem AC.over {c d : Cur} (h : AC c d) : AC c.over d.over := by
  refine ⟨h.1, ?_⟩
  show c.items.tail.map (·.has) = d.items.tail.map (·.has)
  rcases h.cases with ⟨h1, h2⟩ | ⟨y, r, z, s, h1, h2, _, h4⟩
  · rw [h1, h2]
  · rw [h1, h2]
    exact h4

theorem AC.fail {c d : Cur} (h : AC c d) (e : Int) : AC (c.fail e) (d.fail e) := by
  unfold Cur.fail
  rw [← h.1]
  split
  · exact ⟨rfl, h.2⟩
  · exact h

theorem AC.isTo {c d : Cur} (h : AC c d) (x : Has) : AC (c.isTo x) (d.isTo x) := by
  unfold Cur.isTo
  rw [h.is x]
  split
  · exact h.over
  · exact h

theorem AC.name {c d : Cur} (h : AC c d) : c.name.1 = d.name.1 ∧ AC c.name.2 d.name.2 := by
  unfold Cur.name
  rw [← h.1]
  split
  · rcases h.cases with ⟨h1, h2⟩ | ⟨y, r, z, s, h1, h2, h3, _⟩
    · rw [h1, h2]
      exact ⟨rfl, h.fail 7⟩
    · rw [h1, h2]
      simp only [h3]
      split
      · exact ⟨rfl, h.over⟩
      · exact ⟨rfl, h.fail 7⟩
  · exact ⟨rfl, h⟩

theorem AC.num {c d : Cur} (h : AC c d) (a b : Int) : (c.num a b).1 = (d.num a b).1 ∧ AC (c.num a b).2 (d.num a b).2 := by
  unfold Cur.num
  rw [← h.1]
  split
  · rcases h.cases with ⟨h1, h2⟩ | ⟨y, r, z, s, h1, h2, h3, _⟩
    · rw [h1, h2]
      exact ⟨rfl, h.fail 7⟩
    · rw [h1, h2]
      simp only [h3]
      split
      · split
        · exact ⟨rfl, h.fail 3⟩
        · exact ⟨rfl, h.over⟩
      · exact ⟨rfl, h.fail 7⟩
  · exact ⟨rfl, h⟩

theorem AC.sign {c d : Cur} (h : AC c d) (s : ByteArray) : AC (c.sign s) (d.sign s) := by
  unfold Cur.sign
  rw [h.is]
  split
  · exact h.over
  · exact h.fail 7

theorem AC.marks {c d : Cur} (h : AC c d) (ss : List ByteArray) : AC (c.marks ss) (d.marks ss) := by
  unfold Cur.marks
  induction ss generalizing c d with
  | nil => exact h
  | cons s r ih => exact ih (h.sign s)

theorem AC.fin {c d : Cur} (h : AC c d) : AC c.fin d.fin := by
  unfold Cur.fin
  rw [h.more, h.is]
  split
  · split
    · exact h.over
    · exact h.fail 7
  · exact h

/-- one thing that is got -/
structure GetX where
  what : Int
  least : Int
  most : Int
  s : ByteArray
  t : ByteArray

def pick8 (n : Int) : Int := Int.tmod (Int.tmod n 8 + 8) 8

theorem pick8_range (n : Int) : 0 ≤ pick8 n ∧ pick8 n ≤ 7 := by
  unfold pick8
  have h1 : -8 < Int.tmod n 8 := Int.lt_tmod_of_pos n (by decide)
  have h3 : 0 ≤ Int.tmod n 8 + 8 := by omega
  have h4 := Int.tmod_nonneg 8 h3
  have h5 := Int.tmod_lt_of_pos (Int.tmod n 8 + 8) (show (0 : Int) < 8 by decide)
  omega

/-- what alike does to a cursor -/
def Cur.gets (c : Cur) (x : GetX) : Cur :=
  if pick8 x.what = 0 then c.isTo (.name x.s)
  else if pick8 x.what = 1 then c.isTo (.mark x.s)
  else if pick8 x.what = 2 then c.name.2
  else if pick8 x.what = 3 then (c.num x.least x.most).2
  else if pick8 x.what = 4 then c.marks [x.s, x.t]
  else if pick8 x.what = 5 then c.fin
  else c

theorem AC.gets {c d : Cur} (h : AC c d) (x : GetX) : AC (c.gets x) (d.gets x) := by
  unfold Cur.gets
  repeat' split
  · exact h.isTo _
  · exact h.isTo _
  · exact h.name.2
  · exact (h.num _ _).2
  · exact h.marks _
  · exact h.fin
  · exact h

end Go.Proofs.YtoibcaoaljglbaaDoor
