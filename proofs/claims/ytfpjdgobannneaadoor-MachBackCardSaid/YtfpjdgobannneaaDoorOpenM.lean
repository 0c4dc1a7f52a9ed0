
/-
  A machine, as an argument: what a row's condition tells of it (its cells, its sizes).
-/
import Derived.Test.YtfpjdgobannneaaDoorMachK
import Derived.Deep.Slices
import Derived.SizedLaws
import Derived.ChangeOld
import Derived.OpenShut
import Derived.ChangeSlices
import Derived.Lib.SmallJoins
namespace Go.Proofs.YtfpjdgobannneaaDoor
open Go Go.RowKit Go.ChangeShapes Go.Deep Go.Joins

theorem spot_of {w : World} {a : Addr} {v : Value} (h : w.cell? a = some v) : a.spot = none ∧ a.block < w.heap.size := by
  unfold World.cell? at h
  split at h
  · rename_i c _ _ hc
    split at h
    · cases h
    · rename_i hs
      exact ⟨by simpa using hs, lt_of_heap hc⟩
  · cases h

theorem plain_add (g off n : Nat) : Addr.add ⟨g, off, none⟩ n = ⟨g, off + n, none⟩ := by
  unfold Addr.add
  split
  · rename_i h; subst h; rfl
  · rfl

theorem cells_of_int : Tryd.prog.cellsOf 3 = 1 := by kernel_rfl
theorem bytes_of_int : Tryd.prog.bytesOf 3 = 8 := by kernel_rfl

section
variable {H : Type} {enc : TypeId × Value → H} {W : World}

/-- a row of numbers -/
theorem open_introw {fuel : Nat} {v : Value} {x : DataW H × List MemPlace} (h : DataW.trod enc Tryd.prog W 0 (fun _ => true) true fuel 22 [v] = some x)
    (hz : ∀ n ∈ x.1.weights Tryd.prog 22, n ≤ reachBytes) :
    ∃ A cap xs, v = .slice A xs.length cap ∧ IntsAt W A xs ∧ xs.length ≤ 140737488355328 := by
  rcases open_ints Tryd.underlying22 Tryd.underlying3 cells_of_int h with ⟨hcs, _⟩ | ⟨a, len, cap, zs, hcs, hb, hl, hm, hlen, rfl, hc, _⟩
  · simp at hcs
    subst hcs
    exact ⟨none, 0, [], rfl, fun h => absurd rfl h, by simp⟩
  · simp at hcs
    subst hcs
    have hzl : len ≤ zs.length := by
      rw [hlen]
      split <;> omega
    have htl : (zs.take len).length = len := by simp; omega
    refine ⟨some a, cap, zs.take len, by rw [htl], ?_, ?_⟩
    · intro hne
      have hp : 0 < len := by
        rcases Nat.eq_zero_or_pos len with q | q
        · subst q; simp at hne
        · exact q
      obtain ⟨hs, hlt⟩ := spot_of (hc 0 (by omega))
      obtain ⟨g, off, spot⟩ := a
      have hsp : spot = none := by simpa [Addr.add] using hs
      subst hsp
      refine ⟨g, off, rfl, by simpa [Addr.add] using hlt, fun j y hj => ?_⟩
      have hj2 : j < len := by
        rcases Nat.lt_or_ge j len with q | q
        · exact q
        · rw [List.getElem?_eq_none (by omega)] at hj
          cases hj
      have := hc j (by omega)
      rw [plain_add] at this
      rw [this]
      rw [List.getElem?_take_of_lt hj2] at hj
      rw [List.getD_eq_getElem?_getD, hj]
      rfl
    · simp only [DataW.weights, Tryd.underlying22, List.mem_cons, List.mem_append, bytes_of_int] at hz
      have := hz _ (Or.inl rfl)
      simp only [lits, List.length_map] at this
      unfold reachBytes at this
      omega

theorem weights_agg (a b c d : DataW H) (n : Nat) : n ∈ (DataW.agg [a, b, c, d]).weights Tryd.prog 24 ↔ n ∈ DataW.weightsEach Tryd.prog [3, 22, 3, 22] [a, b, c, d] := by
  simp only [DataW.weights, Tryd.underlying24]
  rfl

set_option maxRecDepth 100000 in
theorem open_mach {base : Nat} {v : Value} {d : DataW H} {ps : List MemPlace} {ts : List TypeId} {ds : List (DataW H)} {j : Nat} (hsz : (DataW.weightsEach Tryd.prog ts ds).all (· ≤ reachBytes) = true)
    (ht : ts[j]? = some 24) (hd : ds[j]? = some d) (hv : Value.okWide Tryd.prog W .any base 24 v) (h : DataW.Trod enc Tryd.prog W 0 (fun _ => true) true 24 v d ps) :
    ∃ m A ca S cs, v = Mch.V m A ca S cs ∧ IntsAt W A m.args ∧ IntsAt W S m.saved ∧ m.args.length ≤ 140737488355328 ∧ m.saved.length ≤ 140737488355328 := by
  obtain ⟨v0, v1, v2, v3, y0, y1, y2, y3, n, rfl, rfl, _, h0, h1, h2, h3⟩ := open_agg4 Tryd.underlying24 (by kernel_rfl) (by kernel_rfl) hv h
  have hz : ∀ n ∈ (DataW.agg [y0.1, y1.1, y2.1, y3.1]).weights Tryd.prog 24, n ≤ reachBytes := fun n hn => by
    have := List.all_eq_true.1 hsz _ (DataW.weights_mem_each ht hd n hn)
    simpa using this
  have hw : ∀ (i : Nat) t y, [3, 22, 3, 22][i]? = some t → [y0.1, y1.1, y2.1, y3.1][i]? = some y → ∀ n ∈ y.weights Tryd.prog t, n ≤ reachBytes := fun i t y hi hy n hn =>
    hz n ((weights_agg _ _ _ _ n).2 (DataW.weights_mem_each hi hy n hn))
  obtain ⟨r, e0, _, _⟩ := DataW.trod_int Tryd.underlying3 h0
  obtain ⟨t, e2, _, _⟩ := DataW.trod_int Tryd.underlying3 h2
  simp only [List.cons.injEq, and_true] at e0 e2
  subst e0 e2
  obtain ⟨A, ca, xs, rfl, hx, hxl⟩ := open_introw h1 (hw 1 _ _ rfl rfl)
  obtain ⟨S, cs, zs, rfl, hs, hsl⟩ := open_introw h3 (hw 3 _ _ rfl rfl)
  exact ⟨⟨r, xs, t, zs⟩, A, ca, S, cs, rfl, hx, hs, hxl, hsl⟩

end
end Go.Proofs.YtfpjdgobannneaaDoor
