/-
  A row of Get, as an argument: what a row's condition tells of it (its cells, its sizes).
-/
import Derived.Test.YtoibcaoaljglbaaDoorBlankB
import Derived.Deep.Slices
import Derived.SizedLaws
import Derived.ChangeOld
import Derived.OpenShut
namespace Go.Proofs.YtoibcaoaljglbaaDoor
open Go Go.RowKit Go.ChangeShapes Go.Deep

instance : Inhabited GetX := ⟨⟨0, 0, 0, ⟨#[]⟩, ⟨#[]⟩⟩⟩

theorem weights_elem {H : Type} {P : Program} {e : TypeId} : ∀ {elems : List (DataW H)} {i : Nat} {d : DataW H}, elems[i]? = some d → ∀ n ∈ d.weights P e, n ∈ DataW.weightsAll P e elems
  | d0 :: r, 0, d, h, n, hn => by
    simp only [List.getElem?_cons_zero, Option.some.injEq] at h
    subst h
    simp only [DataW.weightsAll, List.mem_append]
    exact Or.inl hn
  | d0 :: r, i + 1, d, h, n, hn => by
    simp only [List.getElem?_cons_succ] at h
    simp only [DataW.weightsAll, List.mem_append]
    exact Or.inr (weights_elem h n hn)
  | [], i, d, h, _, _ => by simp at h

theorem cell_spot {w : World} {a : Addr} {v : Value} (h : w.cell? a = some v) : a.spot = none ∧ a.block < w.heap.size := by
  unfold World.cell? at h
  split at h
  · rename_i c _ _ hc
    split at h
    · cases h
    · rename_i hs
      exact ⟨by simpa using hs, lt_of_heap hc⟩
  · cases h

theorem add_plain (g off n : Nat) : Addr.add ⟨g, off, none⟩ n = ⟨g, off + n, none⟩ := by
  unfold Addr.add
  split
  · rename_i h; subst h; rfl
  · rfl

theorem cells_Get : Tryd.prog.cellsOf 41 = 5 := by kernel_rfl
theorem bytes_Get : Tryd.prog.bytesOf 41 = 56 := by kernel_rfl
theorem cells_int' : Tryd.prog.cellsOf 3 = 1 := by kernel_rfl
theorem cells_string' : Tryd.prog.cellsOf 9 = 1 := by kernel_rfl

section
variable {H : Type} {enc : TypeId × Value → H} {W : World}

set_option maxRecDepth 100000 in
/-- one Get among cells -/
theorem trod_get {fuel : Nat} {cs : List Value} {x : DataW H × List MemPlace} (h : DataW.trod enc Tryd.prog W 0 (fun _ => true) true fuel 41 cs = some x) :
    ∃ g : GetX, cs = [.int .i64 g.what, .int .i64 g.least, .int .i64 g.most, .string g.s, .string g.t] ∧ x.1 = .agg [.lit (.int .i64 g.what), .lit (.int .i64 g.least), .lit (.int .i64 g.most), .lit (.string g.s.data.toList), .lit (.string g.t.data.toList)] := by
  obtain ⟨xs, n, _, rfl, hl, hlen, hf⟩ := DataW.trod_struct Tryd.underlying41 h
  rw [cells_Get] at hl
  match cs, hl, xs, hlen, hf with
  | [c0, c1, c2, c3, c4], _, [x0, x1, x2, x3, x4], _, hf =>
    have h0 := hf 0 { name := "What", type := 3, offset := 0, embedded := false, tag := "", pkgPath := "", byteOffset := 0 } rfl
    have h1 := hf 1 { name := "Least", type := 3, offset := 1, embedded := false, tag := "", pkgPath := "", byteOffset := 8 } rfl
    have h2 := hf 2 { name := "Most", type := 3, offset := 2, embedded := false, tag := "", pkgPath := "", byteOffset := 16 } rfl
    have h3 := hf 3 { name := "S", type := 9, offset := 3, embedded := false, tag := "", pkgPath := "", byteOffset := 24 } rfl
    have h4 := hf 4 { name := "T", type := 9, offset := 4, embedded := false, tag := "", pkgPath := "", byteOffset := 40 } rfl
    simp only [cells_int', cells_string', List.drop_zero, List.drop_succ_cons, List.take_succ_cons, List.take_zero, List.getElem?_cons_zero, List.getElem?_cons_succ] at h0 h1 h2 h3 h4
    obtain ⟨a0, e0, rfl, _⟩ := DataW.trod_int Tryd.underlying3 h0
    obtain ⟨a1, e1, rfl, _⟩ := DataW.trod_int Tryd.underlying3 h1
    obtain ⟨a2, e2, rfl, _⟩ := DataW.trod_int Tryd.underlying3 h2
    obtain ⟨a3, e3, rfl, _⟩ := DataW.trod_string Tryd.underlying9 h3
    obtain ⟨a4, e4, rfl, _⟩ := DataW.trod_string Tryd.underlying9 h4
    simp only [List.cons.injEq, and_true] at e0 e1 e2 e3 e4
    subst e0 e1 e2 e3 e4
    exact ⟨⟨a0, a1, a2, a3, a4⟩, rfl, rfl⟩

set_option maxRecDepth 100000 in
theorem open_gets {v : Value} {d : DataW H} {ps : List MemPlace} {ts : List TypeId} {ds : List (DataW H)} {j : Nat} (hsz : (DataW.weightsEach Tryd.prog ts ds).all (· ≤ reachBytes) = true)
    (ht : ts[j]? = some 37) (hd : ds[j]? = some d) (hv : ∃ a len cap, v = .slice a len cap) (hp : 0 < W.heap.size) (h : DataW.Trod enc Tryd.prog W 0 (fun _ => true) true 37 v d ps) :
    ∃ A cap xs g off, v = .slice A xs.length cap ∧ GetsAt W g off xs ∧ (xs ≠ [] → A = some ⟨g, off, none⟩) ∧ GetsFit xs ∧ g < W.heap.size := by
  obtain ⟨A, len, cap, rfl⟩ := hv
  obtain ⟨fuel, hf⟩ := h
  rcases DataW.trod_slice Tryd.underlying37 hf with ⟨hcs, _⟩ | ⟨a, len', cap', elems, rest, n, _, hcs, hx, hb, hl, hm, hlen, hel, _, _⟩
  · simp [Value.cells] at hcs
    obtain ⟨rfl, rfl, rfl⟩ := hcs
    exact ⟨none, 0, [], 0, 0, rfl, fun i x hi => by simp at hi, fun h => absurd rfl h, ⟨Nat.zero_le _, fun x hx => by cases hx⟩, hp⟩
  · simp [Value.cells] at hcs
    obtain ⟨rfl, rfl, rfl⟩ := hcs
    obtain ⟨hx, _⟩ := Prod.mk.inj hx
    rw [cells_Get] at hel
    have one : ∀ i, i < len → ∃ g : GetX, (∀ k u, [Value.int .i64 g.what, .int .i64 g.least, .int .i64 g.most, .string g.s, .string g.t][k]? = some u → W.cell? (a.add (i * 5 + k)) = some u) ∧
        (elems[i]?).map (·.1) = some (.agg [.lit (.int .i64 g.what), .lit (.int .i64 g.least), .lit (.int .i64 g.most), .lit (.string g.s.data.toList), .lit (.string g.t.data.toList)]) := by
      intro i hi
      have h1 := hel i hi
      have hie : i < elems.length := by omega
      rw [List.getElem?_eq_getElem hie] at h1
      obtain ⟨cs, h2, h3⟩ := Option.bind_eq_some_iff.1 h1
      obtain ⟨g, rfl, hg⟩ := trod_get h3
      obtain ⟨_, _, h4⟩ := World.cells?_some h2
      refine ⟨g, fun k u hk => ?_, by rw [List.getElem?_eq_getElem hie]; simp [hg]⟩
      have hk5 : k < 5 := by
        rcases Nat.lt_or_ge k 5 with q | q
        · exact q
        · rw [List.getElem?_eq_none (by simpa using q)] at hk
          cases hk
      have := h4 k hk5
      rw [add_add] at this
      rw [this, hk]
    obtain ⟨V, hV⟩ := choose_lt (α := GetX) (p := fun i g => (∀ k u, [Value.int .i64 g.what, .int .i64 g.least, .int .i64 g.most, .string g.s, .string g.t][k]? = some u → W.cell? (a.add (i * 5 + k)) = some u) ∧
        (elems[i]?).map (·.1) = some (.agg [.lit (.int .i64 g.what), .lit (.int .i64 g.least), .lit (.int .i64 g.most), .lit (.string g.s.data.toList), .lit (.string g.t.data.toList)])) one
    have hfit : GetsFit ((List.range len).map V) := by
      have hz : ∀ n ∈ d.weights Tryd.prog 37, n ≤ reachBytes := fun n hn => by
        have := List.all_eq_true.1 hsz _ (DataW.weights_mem_each ht hd n hn)
        simpa using this
      subst hx
      simp only [DataW.weights, Tryd.underlying37, List.mem_cons, List.mem_append, bytes_Get] at hz
      refine ⟨?_, fun x hx => ?_⟩
      · have := hz _ (Or.inl rfl)
        simp only [List.length_map, List.length_range] at this ⊢
        unfold reachBytes at this
        omega
      · obtain ⟨i, hi, rfl⟩ := List.mem_map.1 hx
        have hi' := List.mem_range.1 hi
        obtain ⟨_, he⟩ := hV i hi'
        have he2 : (elems.map (·.1))[i]? = some (.agg [.lit (.int .i64 (V i).what), .lit (.int .i64 (V i).least), .lit (.int .i64 (V i).most), .lit (.string (V i).s.data.toList), .lit (.string (V i).t.data.toList)]) := by
          rw [List.getElem?_map]; exact he
        have hw := fun n hn => hz n (Or.inr (Or.inl (weights_elem he2 n hn)))
        simp only [DataW.weights, Tryd.underlying41, List.map_cons, List.map_nil, DataW.weightsEach, List.nil_append, List.append_nil, List.mem_append, List.mem_cons, List.not_mem_nil, or_false] at hw
        have w1 := hw _ (Or.inl rfl)
        have w2 := hw _ (Or.inr rfl)
        unfold reachBytes at w1 w2
        simp only [Array.length_toList] at w1 w2
        exact ⟨w1, w2⟩
    have hlen2 : ((List.range len).map V).length = len := by simp
    by_cases h0 : len = 0
    · subst h0
      exact ⟨some a, cap, [], 0, 0, rfl, fun i x hi => by simp at hi, fun h => absurd rfl h, ⟨Nat.zero_le _, fun x hx => by cases hx⟩, hp⟩
    · have c0 := (hV 0 (by omega)).1 0 _ rfl
      obtain ⟨hs, hlt⟩ := cell_spot c0
      obtain ⟨g, off, spot⟩ := a
      have hsp : spot = none := by
        simpa [Addr.add] using hs
      subst hsp
      refine ⟨some ⟨g, off, none⟩, cap, (List.range len).map V, g, off, by rw [hlen2], ?_, fun _ => rfl, hfit, by simpa [Addr.add] using hlt⟩
      intro i x hi
      have hi2 : i < len := by
        rcases Nat.lt_or_ge i len with q | q
        · exact q
        · rw [List.getElem?_eq_none (by rw [hlen2]; exact q)] at hi
          cases hi
      have hxe : x = V i := by
        rw [List.getElem?_map, List.getElem?_range hi2] at hi
        exact (Option.some.inj hi).symm
      subst hxe
      have hc := (hV i hi2).1
      have e : ∀ k, Addr.add ⟨g, off, none⟩ (i * 5 + k) = ⟨g, off + i * 5 + k, none⟩ := fun k => by rw [add_plain, Nat.add_assoc]
      have q0 := hc 0 _ rfl
      have q1 := hc 1 _ rfl
      have q2 := hc 2 _ rfl
      have q3 := hc 3 _ rfl
      have q4 := hc 4 _ rfl
      rw [e] at q0 q1 q2 q3 q4
      exact ⟨q0, q1, q2, q3, q4⟩

end
end Go.Proofs.YtoibcaoaljglbaaDoor
