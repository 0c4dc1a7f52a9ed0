/-
  CompactFunc at items: the built-in clear, and the walk.
-/
import Derived.Test.YtoibcaoaljglbaaDoorOverB
import Derived.Laws.CopyRow
namespace Go.Proofs.YtoibcaoaljglbaaDoor
open Go Go.RowKit

theorem zeros_one (n : Nat) : ∀ v ∈ (Builtin.zeroCells #[.int .i64 0, .int .i64 0, .nilIface] n).toList, v.oneCell' = true := by
  intro v hv
  simp [Builtin.zeroCells] at hv
  obtain ⟨i, _, rfl⟩ := hv
  have h3 : i % 3 = 0 ∨ i % 3 = 1 ∨ i % 3 = 2 := by omega
  rcases h3 with h | h | h <;> simp [h] <;> rfl

theorem zero_item (w : World) : (zeroValue 70).run Tryd.prog w = .ok (.agg #[.int .i64 0, .int .i64 0, .nilIface]) w := by kernel_rfl

theorem clear_items {w : World} {g cap : Nat} {cur : Array Value} (h : RowF w g cap cur) (k m c : Nat) (ty : TypeId) (hk : k + m ≤ cap) (hm : m ≠ 0) :
    ∃ w', (Builtin.clear_ #[61] ty #[.slice (some ⟨g, k * 3, none⟩) m c]).run Tryd.prog w = .ok (.tuple #[]) w' ∧ Keeps (fun i => i = g) w w' ∧
      ∃ cur', RowF w' g cap cur' ∧ ∀ i x, i < k → ItemAt cur i x → ItemAt cur' i x := by
  have hsz := h.size
  have hzs : (Builtin.zeroCells #[.int .i64 0, .int .i64 0, .nilIface] m).toList.length = m * 3 := by
    simp [Builtin.zeroCells]
  have hst := run_storeCells_at Tryd.prog g (k * 3) 70 (Builtin.zeroCells #[.int .i64 0, .int .i64 0, .nilIface] m).toList 0 cur w h.blk (by rw [hzs]; omega) (zeros_one m)
  have hq : ∀ j, j < k * 3 → ((cur.toList.take (k * 3 + 0) ++ (Builtin.zeroCells #[.int .i64 0, .int .i64 0, .nilIface] m).toList ++ cur.toList.drop (k * 3 + 0 + (Builtin.zeroCells #[.int .i64 0, .int .i64 0, .nilIface] m).toList.length)).toArray)[j]? = cur[j]? := by
    intro j hj
    rw [List.getElem?_toArray, List.append_assoc, List.getElem?_append_left (by simp; omega), List.getElem?_take_of_lt (by omega), Array.getElem?_toList]
  have hlen : ((cur.toList.take (k * 3 + 0) ++ (Builtin.zeroCells #[.int .i64 0, .int .i64 0, .nilIface] m).toList ++ cur.toList.drop (k * 3 + 0 + (Builtin.zeroCells #[.int .i64 0, .int .i64 0, .nilIface] m).toList.length)).toArray).size = cap * 3 := by
    simp only [List.size_toArray, List.length_append, List.length_take, List.length_drop, hzs, Array.length_toList]
    omega
  generalize (cur.toList.take (k * 3 + 0) ++ (Builtin.zeroCells #[.int .i64 0, .int .i64 0, .nilIface] m).toList ++ cur.toList.drop (k * 3 + 0 + (Builtin.zeroCells #[.int .i64 0, .int .i64 0, .nilIface] m).toList.length)).toArray = arr at *
  refine ⟨w.setRow g arr, ?_, ⟨rfl, rfl, rfl, by simp, fun i _ hi => setRow_other w g i _ hi⟩, arr, ⟨setRow_heap w g cur _ _ _ h.blk, hlen⟩, ?_⟩
  · obtain ⟨n, rfl⟩ : ∃ n, m = n + 1 := ⟨m - 1, by omega⟩
    have hz : (Value.agg #[.int .i64 0, .int .i64 0, .nilIface]).cells = #[.int .i64 0, .int .i64 0, .nilIface] := rfl
    generalize hzc : (Builtin.zeroCells #[.int .i64 0, .int .i64 0, .nilIface] (n + 1)).toList = zs at hst
    simp [Builtin.clear_, run_underlying Tryd.underlying61, hz, hzc, hst]
  · intro i x hi ⟨h1, h2, h3⟩
    exact ⟨(hq _ (by omega)).trans h1, (hq _ (by omega)).trans h2, (hq _ (by omega)).trans h3⟩

end Go.Proofs.YtoibcaoaljglbaaDoor
