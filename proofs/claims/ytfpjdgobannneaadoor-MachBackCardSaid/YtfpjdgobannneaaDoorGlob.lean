
/-
  The package-level variables that the road reads, and that they stay.
-/
import Derived.Test.YtfpjdgobannneaaDoorProg
import Derived.Test.YtfpjdgobannneaaDoorMem
namespace Go.Proofs.YtfpjdgobannneaaDoor
open Go Go.RowKit

/-- what the road asks of the package-level variables: the two errors hold something -/
structure Glob (w : World) : Prop where
  syn : ∃ tp p, w.cell? ⟨2, 0, none⟩ = some (.iface tp p)
  rng : ∃ tp p, w.cell? ⟨3, 0, none⟩ = some (.iface tp p)
  pow : ∃ cs t, w.heap[1]? = some (.cells cs t (0, 0)) ∧ cs.toList = [1, 10, 100, 1000, 10000, 100000, 1000000, 10000000, 100000000, 1000000000, 10000000000, 100000000000, 1000000000000, 10000000000000, 100000000000000, 1000000000000000, 10000000000000000, 100000000000000000, 1000000000000000000, 10000000000000000000].map (Value.int .u64)

theorem Glob.keeps {S : Nat → Prop} {w w' : World} (h : Glob w) (hk : Keeps S w w') (hS : ∀ k, k < 4 → ¬ S k) : Glob w' := by
  obtain ⟨⟨a, b, h1⟩, ⟨c, d, h2⟩, ⟨cs, t, h3, h4⟩⟩ := h
  exact ⟨⟨a, b, hk.cell' h1 (hS _ (by decide))⟩, ⟨c, d, hk.cell' h2 (hS _ (by decide))⟩, ⟨cs, t, hk.heap h3 (hS _ (by decide)), h4⟩⟩

end Go.Proofs.YtfpjdgobannneaaDoor
