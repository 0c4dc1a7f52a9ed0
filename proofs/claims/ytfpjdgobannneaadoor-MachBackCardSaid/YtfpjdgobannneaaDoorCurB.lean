
/-
  A broken cursor stays so: plain laws.
-/
import Derived.Test.YtfpjdgobannneaaDoorLineG
namespace Go.Proofs.YtfpjdgobannneaaDoor
open Go Go.RowKit

theorem fail_zero (c : Cur) : c.fail 0 = c := by
  unfold Cur.fail
  rw [if_neg (by rintro ⟨_, h⟩; exact h rfl)]

theorem fail_broken (c : Cur) {e : Int} (he : e ≠ 0) : (c.fail e).wrong ≠ 0 := by
  unfold Cur.fail
  split
  · exact he
  · rename_i h
    intro h0
    exact h ⟨h0, he⟩

theorem broken_fail {c : Cur} (h : c.wrong ≠ 0) (e : Int) : c.fail e = c := by
  unfold Cur.fail
  rw [if_neg (by rintro ⟨h0, _⟩; exact h h0)]
theorem broken_err {c : Cur} (h : c.wrong ≠ 0) : c.err = (c.l, c.c, c.wrong) := by
  unfold Cur.err
  rw [if_neg h]
theorem broken_more {c : Cur} (h : c.wrong ≠ 0) : c.more = false := by
  unfold Cur.more
  simp [h]
theorem broken_name {c : Cur} (h : c.wrong ≠ 0) : c.name = (⟨#[]⟩, c) := by
  unfold Cur.name
  rw [if_neg h]
theorem broken_num {c : Cur} (h : c.wrong ≠ 0) (a b : Int) : c.num a b = (0, c) := by
  unfold Cur.num
  rw [if_neg h]
theorem broken_is {c : Cur} (h : c.wrong ≠ 0) (x : Has) : c.is x = false := by
  unfold Cur.is
  simp [h]

end Go.Proofs.YtfpjdgobannneaaDoor
