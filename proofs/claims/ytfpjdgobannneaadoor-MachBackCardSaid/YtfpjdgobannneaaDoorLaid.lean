
/-
  What a row's listed variables give a walk (Glob), and a world that meets the condition.
-/
import Derived.Test.YtfpjdgobannneaaDoorRows
import Derived.Test.YtfpjdgobannneaaDoorGlob
import Derived.ProofKit
import Derived.LaidMore
import Derived.OpenShut
import Derived.ShutString
import Derived.Below
import Derived.Stop.Joined
import Derived.Stop.LaidErr
import Derived.Lib.LaidTab
namespace Go.Proofs.YtfpjdgobannneaaDoor
open Go Go.RowKit Go.ChangeShapes

theorem own : ownKnob Tryd.prog.godebug = none := by kernel_rfl
theorem laidOut : laidOutB Tryd.prog = true := by kernel_rfl

def laidL : List (String × DataW Unit) := [("math/bits.deBruijn32tab", Rows.laid_math_bits_deBruijn32tab), ("math/bits.deBruijn64tab", Rows.laid_math_bits_deBruijn64tab), ("internal/strconv.uint64pow10", Rows.laid_internal_strconv_uint64pow10), ("strconv.ErrRange", Rows.laid_strconv_ErrRange), ("strconv.ErrSyntax", Rows.laid_strconv_ErrSyntax)]

/-- the door's own heap meets the condition -/
theorem door_met (os : Os) (args : Array Value) : laidMetH Tryd.prog laidL ((World.doorLaid Tryd.prog 400 os).forCall (fun _ _ => 0) ⟨#[], args, []⟩).memory :=
  laidMetH_of_parts3 (fuel := 8) (laidMet_of_run' 8 (by kernel_rfl) (by kernel_rfl)) (by kernel_rfl) (by kernel_rfl)

theorem error_row (u : TypeId) (h : Tryd.prog.typeName? 3 u = some "*errors.errorString") : u = 158 :=
  typeName_ptr_named (nm := "errors.errorString") (by kernel_rfl) (by kernel_rfl) (by decide) u h

theorem glob_of_laid {W : World} (hL : laidMetH Tryd.prog laidL W) : Glob W ∧ 4 ≤ W.heap.size := by
  rw [MakeChecks.laidMetH_plain _ _ _ (by kernel_rfl)] at hL
  have gA : Tryd.prog.globalNamed "math/bits.deBruijn32tab" = some 4 := by kernel_rfl
  have ltA : 4 < W.heap.size := by
    obtain ⟨ps, ⟨g0, t0, cs0, f0, p0, q0, hg0, _, hv0, _, _, e0⟩, _, hrows⟩ := hL
    rcases Nat.lt_or_ge 4 W.heap.size with q | q
    · exact q
    · simp [World.var?, gA, Array.getElem?_eq_none q] at hv0
  have h2 := hL.tail.tail
  have h3 := h2.tail
  have h4 := h3.tail
  have g1 : Tryd.prog.globalNamed "internal/strconv.uint64pow10" = some 1 := by kernel_rfl
  have g2 : Tryd.prog.globalNamed "strconv.ErrRange" = some 3 := by kernel_rfl
  have g3 : Tryd.prog.globalNamed "strconv.ErrSyntax" = some 2 := by kernel_rfl
  have tab := Lib.tabIs_of_head (zs := [1, 10, 100, 1000, 10000, 100000, 1000000, 10000000, 100000000, 1000000000, 10000000000, 100000000000, 1000000000000, 10000000000000, 100000000000000, 1000000000000000, 10000000000000000, 100000000000000000, 1000000000000000000, 10000000000000000000]) g1 (by kernel_rfl) Tryd.underlying137 Tryd.underlying129 (by kernel_rfl) (by kernel_rfl) h2
  obtain ⟨a0, s0, v0, _, _, _⟩ := laid_sentinel h3 g2 (by kernel_rfl) Tryd.underlying70 error_row Tryd.underlying158 Tryd.underlying160 rfl rfl Tryd.underlying9 (by kernel_rfl) (by kernel_rfl)
  obtain ⟨a1, s1, v1, _, _, _⟩ := laid_sentinel h4 g3 (by kernel_rfl) Tryd.underlying70 error_row Tryd.underlying158 Tryd.underlying160 rfl rfl Tryd.underlying9 (by kernel_rfl) (by kernel_rfl)
  have blk : ∃ cs t, W.heap[1]? = some (.cells cs t (0, 0)) := by
    obtain ⟨ps, ⟨g0, t0, cs0, f0, p0, q0, hg0, _, hv0, _, _, e0⟩, _, hrows⟩ := h2
    obtain rfl := Option.some.inj (g1.symm.trans hg0)
    have tv : W.var? Tryd.prog "internal/strconv.uint64pow10" = some _ := tab
    obtain rfl := Option.some.inj (tv.symm.trans hv0)
    exact (hrows 1 0 (by subst e0; simp [MemPlace.row])).1
  obtain ⟨cs, t, hb⟩ := blk
  have c0 : W.cell? ⟨3, 0, none⟩ = some (.iface 158 (.pointer (some a0))) := by simpa using World.var?_cell g2 v0 0
  have c1 : W.cell? ⟨2, 0, none⟩ = some (.iface 158 (.pointer (some a1))) := by simpa using World.var?_cell g3 v1 0
  have hcell : ∀ {b : Nat} {v : Value}, W.cell? ⟨b, 0, none⟩ = some v → b < W.heap.size := by
    intro b v h
    rcases Nat.lt_or_ge b W.heap.size with q | q
    · exact q
    · simp [World.cell?, Array.getElem?_eq_none q] at h
  refine ⟨⟨⟨_, _, c1⟩, ⟨_, _, c0⟩, ⟨cs, t, hb, ?_⟩⟩, ?_⟩
  · have tv : W.var? Tryd.prog "internal/strconv.uint64pow10" = some _ := tab
    simp only [World.var?, g1, Option.bind_some, hb, Option.some.injEq] at tv
    rw [tv]
  · have := hcell c0
    have := hcell c1
    have := lt_of_heap hb
    have := ltA
    omega

end Go.Proofs.YtfpjdgobannneaaDoor
