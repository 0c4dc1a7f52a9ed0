
/-
  A right machine: plain laws.
-/
import Derived.Test.YtfpjdgobannneaaDoorMachP
namespace Go.Proofs.YtfpjdgobannneaaDoor
open Go Go.RowKit

/-- registers of a machine that has so many, none twice -/
def RegsOk (regs : Int) (l : List Int) : Prop := (∀ x ∈ l, 0 ≤ x ∧ x < regs) ∧ l.Nodup

/-- a right machine, as the program tells it -/
def RightM (m : Mch) : Prop := 1 ≤ m.regs ∧ m.regs ≤ 64 ∧ m.args.length ≤ 8 ∧ (m.saved.length : Int) ≤ m.regs ∧ m.saved.Pairwise (· ≤ ·) ∧ RegsOk m.regs m.args ∧ RegsOk m.regs (m.ret :: m.saved)

/-- a right machine, as the document tells it -/
def RightD (m : Mch) : Prop := 1 ≤ m.regs ∧ m.regs ≤ 64 ∧ m.args.length ≤ 8 ∧ (m.saved.length : Int) ≤ m.regs ∧ 0 ≤ m.ret ∧ m.ret < m.regs ∧ m.ret ∉ m.saved ∧ RegsOk m.regs m.args ∧ (∀ x ∈ m.saved, 0 ≤ x ∧ x < m.regs) ∧ m.saved.Pairwise (· < ·)

theorem pairwise_lt {l : List Int} : l.Pairwise (· < ·) ↔ l.Pairwise (· ≤ ·) ∧ l.Nodup := by
  induction l with
  | nil => simp
  | cons a t ih =>
    simp only [List.pairwise_cons, List.nodup_cons, ih]
    constructor
    · rintro ⟨h1, h2, h3⟩
      exact ⟨⟨fun x hx => by have := h1 x hx; omega, h2⟩, fun hm => by have := h1 a hm; omega, h3⟩
    · rintro ⟨⟨h1, h2⟩, h3, h4⟩
      refine ⟨fun x hx => ?_, h2, h4⟩
      have := h1 x hx
      have hne : a ≠ x := fun e => h3 (by rw [e]; exact hx)
      omega

theorem right_iff (m : Mch) : RightM m ↔ RightD m := by
  unfold RightM RightD
  rw [pairwise_lt]
  unfold RegsOk
  simp only [List.mem_cons, List.nodup_cons, forall_eq_or_imp]
  constructor
  · rintro ⟨a, b, c, d, e, f, ⟨g, h⟩, i, j⟩
    exact ⟨a, b, c, d, g.1, g.2, i, f, h, e, j⟩
  · rintro ⟨a, b, c, d, g1, g2, i, f, h, e, j⟩
    exact ⟨a, b, c, d, e, f, ⟨⟨g1, g2⟩, h⟩, i, j⟩

end Go.Proofs.YtfpjdgobannneaaDoor
