/-
  The contract of word.Read.
-/
import Derived.Test.YtoibcaoaljglbaaDoorWordH
import Derived.Deep.LoopGhost
namespace Go.Proofs.YtoibcaoaljglbaaDoor
open Go Go.RowKit

theorem own_mono {w : World} {base base' : Nat} {e : TypeId} {size : Nat} {v : Value} {n : Nat} {xs : List Value} (h : w.ownsRow base e size v n xs) (hb : base' ≤ base) : w.ownsRow base' e size v n xs := by
  refine ⟨h.1, ?_⟩
  rcases h.2 with h2 | ⟨g, cap, cur, hv, hg, r⟩
  · exact Or.inl h2
  · exact Or.inr ⟨g, cap, cur, hv, Nat.le_trans hb hg, r⟩

theorem own_iterAt {w : World} {base : Nat} {e : TypeId} {size : Nat} {v : Value} {n : Nat} {xs : List Value} (h : w.ownsRow base e size v n xs) {k : Nat} {s : ByteArray} {p : Nat} (hk : w.heap[k]? = some (.stringIter s p)) (p' : Nat) : (w.iterAt k s p').ownsRow base e size v n xs := by
  refine ⟨h.1, ?_⟩
  rcases h.2 with h2 | ⟨g, cap, cur, hv, hg, hh, r⟩
  · exact Or.inl h2
  · refine Or.inr ⟨g, cap, cur, hv, hg, ?_, r⟩
    rw [Lib.iterAt_other _ _ _ _ _ (by
      intro e
      subst e
      rw [hk] at hh
      cases hh)]
    exact hh

section
variable {base b : Nat} {st : Rd} {w : World} {tA wA : Option Addr} {tc wc : Nat}

theorem RS.iterAt (h : RS base w b st tA tc wA wc) {k : Nat} {s : ByteArray} {p : Nat} (hk : w.heap[k]? = some (.stringIter s p)) (p' : Nat) : RS base (w.iterAt k s p') b st tA tc wA wc := by
  refine ⟨?_, own_iterAt h.text hk p', own_iterAt h.words hk p', by rw [Lib.iterAt_size]; exact h.size⟩
  rw [Lib.iterAt_other _ _ _ _ _ (by
    intro e
    subst e
    have := h.blk
    rw [hk] at this
    cases this)]
  exact h.blk

theorem Keeps.iterAt {S : Nat → Prop} {a w : World} (h : Keeps S a w) {k : Nat} (hk : S k ∨ a.heap.size ≤ k) (s : ByteArray) (p : Nat) : Keeps S a (w.iterAt k s p) :=
  ⟨h.os, h.tape, h.output, by rw [Lib.iterAt_size]; exact h.size, fun i hi hs => by
    rw [Lib.iterAt_other _ _ _ _ _ (by
      intro e
      subst e
      rcases hk with hk | hk
      · exact hs hk
      · omega)]
    exact h.block i hi hs⟩

/-- what the loop's relation holds of a world: the iterator, the reader, what stays -/
structure RdAt (s : ByteArray) (w w' : World) (k : Nat) (st : Rd) : Prop where
  iter : w'.heap[w.heap.size + 1]? = some (.stringIter s k)
  rs : ∃ tA tc wA wc, RS (w.heap.size + 2) w' w.heap.size st tA tc wA wc
  keep : Keeps (fun _ => False) w w'
  glob : Glob w'
  fits : st.Fits k

theorem RdAt.step {s : ByteArray} {w wr w' : World} {k : Nat} {st st' : Rd} (h : RdAt s w wr k st) {p : Nat} (hk : RSK (w.heap.size + 2) (wr.iterAt (w.heap.size + 1) s p) w' w.heap.size st') (hf : st'.Fits p) (h8 : 4 ≤ w.heap.size) : RdAt s w w' p st' := by
  obtain ⟨h1, h2, h3, h4, h5⟩ := h
  have hsz := lt_of_heap h1
  refine ⟨hk.2.heap (Lib.iterAt_heap _ _ _ _ _ h1) (by omega), hk.1, ?_, ?_, hf⟩
  · refine (h3.iterAt (k := w.heap.size + 1) (Or.inr (by omega)) s p).trans' hk.2 ?_
    intro i hi hc
    have := h3.size
    omega
  · refine Glob.keeps (S := fun k => k = w.heap.size ∨ w.heap.size + 2 ≤ k) (h4.keeps (S := fun k => 4 ≤ k) ((Keeps.refl _ _).iterAt (Or.inl (by omega)) s p) (by omega)) hk.2 (by omega)

end

theorem look_bad (st : Rd) : (st.look true).wrong ≠ 0 := by
  show (st.close.fail 6 st.line st.col).wrong ≠ 0
  unfold Rd.fail
  split
  · show (6 : Int) ≠ 0
    decide
  · assumption

end Go.Proofs.YtoibcaoaljglbaaDoor
