/-
  The reader of package word: its state as Lean data (Rd), how it lies in memory (RS), and the contracts of over, fail, put.
-/
import Derived.Test.YtoibcaoaljglbaaDoorProg
import Derived.Test.YtoibcaoaljglbaaDoorMem
import Derived.Deep.QuietTactic
import Derived.BigQuiet
import Derived.Deep.RegionWith
import Derived.Deep.RegionLaw
import Derived.Deep.AppendLies
import Derived.Outline
namespace Go.Proofs.YtoibcaoaljglbaaDoor
open Go Go.RowKit

/-- a word -/
structure Wd where
  kind : Int
  text : ByteArray
  n : Int
  line : Int
  col : Int

def Wd.cells (x : Wd) : List Value := [.int .i64 x.kind, .string x.text, .int .i64 x.n, .int .i64 x.line, .int .i64 x.col]

structure Rd where
  line : Int
  col : Int
  state : Int
  fl : Int
  fc : Int
  text : List Int
  words : List Wd
  wrong : Int
  al : Int
  ac : Int

def runes (l : List Int) : List Value := l.map (Value.int .i32)

def wcells (l : List Wd) : List Value := l.flatMap Wd.cells

def RdBlk (tA : Option Addr) (tc : Nat) (wA : Option Addr) (wc : Nat) (st : Rd) : Obj :=
  .cells #[.int .i64 st.line, .int .i64 st.col, .int .i64 st.state, .int .i64 st.fl, .int .i64 st.fc, .slice tA st.text.length tc, .bool false,
    .slice wA st.words.length wc, .int .i64 st.wrong, .int .i64 st.al, .int .i64 st.ac] 57 (0, 0)

/-- the reader lies at block b; all that it owns was made from block base on -/
structure RS (base : Nat) (w : World) (b : Nat) (st : Rd) (tA : Option Addr) (tc : Nat) (wA : Option Addr) (wc : Nat) : Prop where
  blk : w.heap[b]? = some (RdBlk tA tc wA wc st)
  text : w.ownsRow base 21 1 (.slice tA st.text.length tc) st.text.length (runes st.text)
  words : w.ownsRow base 33 5 (.slice wA st.words.length wc) st.words.length (wcells st.words)
  size : base ≤ w.heap.size

/-- what the reader's methods leave -/
def RSK (base : Nat) (w w' : World) (b : Nat) (st : Rd) : Prop := (∃ tA tc wA wc, RS base w' b st tA tc wA wc) ∧ Keeps (fun k => k = b ∨ base ≤ k) w w'

/-- what is owned is at no block of another kind -/
theorem own_ne {w : World} {base : Nat} {e : TypeId} {size : Nat} {v : Value} {n : Nat} {xs : List Value} (h : w.ownsRow base e size v n xs) {b : Nat} {cs : Array Value} {t : TypeId} {fr : Nat × Nat}
    (hb : w.heap[b]? = some (.cells cs t fr)) (ht : t ≠ e) : v.ownBlock ≠ some b := by
  intro hv
  rcases h.2 with ⟨rfl, _⟩ | ⟨g, cap, cur, rfl, _, hg, _⟩
  · simp [Value.ownBlock] at hv
  · simp [Value.ownBlock] at hv
    subst hv
    rw [hb] at hg
    simp only [Option.some.injEq, Obj.cells.injEq] at hg
    exact ht hg.2.1

theorem own_apart {w : World} {base : Nat} {e e' : TypeId} {size size' : Nat} {v v' : Value} {n n' : Nat} {xs xs' : List Value} (h : w.ownsRow base e size v n xs) (h' : w.ownsRow base e' size' v' n' xs') (he : e ≠ e') :
    v.ownBlock = none ∨ v.ownBlock ≠ v'.ownBlock := by
  rcases h.2 with ⟨rfl, _⟩ | ⟨g, cap, cur, rfl, _, hg, _⟩
  · exact Or.inl rfl
  · right
    intro hv
    exact own_ne h' hg he (by rw [← hv]; rfl)

theorem grown_set (w : World) (b i : Nat) (u : Value) : w.grownBy (w.setCell ⟨b, i, none⟩ u) (some b) :=
  ⟨rfl, rfl, rfl, by simp [World.setCell], fun k _ hk => Below.heap_setCell _ _ _ _ (by intro e; exact hk (by rw [e]))⟩

theorem own_set {w : World} {base : Nat} {e : TypeId} {size : Nat} {v : Value} {n : Nat} {xs : List Value} (h : w.ownsRow base e size v n xs) {b : Nat} (hv : v.ownBlock ≠ some b) (i : Nat) (u : Value) :
    (w.setCell ⟨b, i, none⟩ u).ownsRow base e size v n xs := h.kept (grown_set w b i u) (Or.inr hv)

section
variable {base b : Nat} {st : Rd} {w : World} {tA wA : Option Addr} {tc wc : Nat}

theorem RS.cells (h : RS base w b st tA tc wA wc) : w.cell? ⟨b, 0, none⟩ = some (.int .i64 st.line) ∧ w.cell? ⟨b, 1, none⟩ = some (.int .i64 st.col) ∧ w.cell? ⟨b, 2, none⟩ = some (.int .i64 st.state) ∧
    w.cell? ⟨b, 3, none⟩ = some (.int .i64 st.fl) ∧ w.cell? ⟨b, 4, none⟩ = some (.int .i64 st.fc) ∧ w.cell? ⟨b, 5, none⟩ = some (.slice tA st.text.length tc) ∧ w.cell? ⟨b, 7, none⟩ = some (.slice wA st.words.length wc) ∧
    w.cell? ⟨b, 8, none⟩ = some (.int .i64 st.wrong) ∧ w.cell? ⟨b, 9, none⟩ = some (.int .i64 st.al) ∧ w.cell? ⟨b, 10, none⟩ = some (.int .i64 st.ac) :=
  ⟨(blk_cell h.blk 0).trans rfl, (blk_cell h.blk 1).trans rfl, (blk_cell h.blk 2).trans rfl, (blk_cell h.blk 3).trans rfl, (blk_cell h.blk 4).trans rfl, (blk_cell h.blk 5).trans rfl, (blk_cell h.blk 7).trans rfl,
    (blk_cell h.blk 8).trans rfl, (blk_cell h.blk 9).trans rfl, (blk_cell h.blk 10).trans rfl⟩

theorem RS.free (h : RS base w b st tA tc wA wc) (i : Nat) : w.frozen? ⟨b, i, none⟩ = false := blk_free h.blk i

theorem RS.lt (h : RS base w b st tA tc wA wc) : b < w.heap.size := lt_of_heap h.blk

/-- a store of a number into the reader's block: st' is st with that field turned -/
theorem RS.set (h : RS base w b st tA tc wA wc) (i : Nat) (u : Value) (st' : Rd) (ht : st'.text = st.text) (hw : st'.words = st.words)
    (he : (#[.int .i64 st.line, .int .i64 st.col, .int .i64 st.state, .int .i64 st.fl, .int .i64 st.fc, .slice tA st.text.length tc, .bool false,
    .slice wA st.words.length wc, .int .i64 st.wrong, .int .i64 st.al, .int .i64 st.ac] : Array Value).setIfInBounds i u = #[.int .i64 st'.line, .int .i64 st'.col, .int .i64 st'.state, .int .i64 st'.fl, .int .i64 st'.fc, .slice tA st.text.length tc, .bool false,
    .slice wA st.words.length wc, .int .i64 st'.wrong, .int .i64 st'.al, .int .i64 st'.ac]) : RS base (w.setCell ⟨b, i, none⟩ u) b st' tA tc wA wc := by
  refine ⟨?_, ?_, ?_, by simpa [World.setCell] using h.size⟩
  · have := blk_set h.blk i u
    rw [he] at this
    rw [this, RdBlk, ht, hw]
  · rw [ht]
    exact own_set h.text (own_ne h.text h.blk (by decide)) i u
  · rw [hw]
    exact own_set h.words (own_ne h.words h.blk (by decide)) i u

theorem RS.drew (h : RS base w b st tA tc wA wc) : RS base w.drew b st tA tc wA wc := ⟨h.blk, h.text, h.words, h.size⟩

theorem RS.drewN (h : RS base w b st tA tc wA wc) (n : Nat) : RS base (w.drewN n) b st tA tc wA wc := ⟨h.blk, h.text, h.words, h.size⟩

theorem RS.alloc (h : RS base w b st tA tc wA wc) (o : Obj) : RS base (w.alloc o) b st tA tc wA wc := ⟨blk_alloc h.blk o, h.text.alloc o, h.words.alloc o, by have := h.size; simp; omega⟩

def Rd.over (st : Rd) (r : Int) : Rd := if r = 10 then { st with line := st.line + 1, col := 1 } else { st with col := st.col + 1 }

theorem over_spot (h : RS base w b st tA tc wA wc) (r : Int) (hl : 0 ≤ st.line ∧ st.line ≤ 4611686018427387904) (hc : 0 ≤ st.col ∧ st.col ≤ 4611686018427387904) :
    Calls Tryd.prog 28 #[.pointer (some ⟨b, 0, none⟩), .int .i32 r] w fun e w' => e = .returned (.tuple #[]) ∧ RS base w' b (st.over r) tA tc wA wc ∧ Keeps (fun k => k = b ∨ base ≤ k) w w' := by
  have q := h.cells
  obtain ⟨c0, c1, _⟩ := q
  have f0 := h.free 0
  have f1 := h.free 1
  obtain ⟨hl1, hl2⟩ := hl
  obtain ⟨hc1, hc2⟩ := hc
  by_cases hr : r = 10
  · have e1 : st.over r = { st with line := st.line + 1, col := 1 } := by simp [Rd.over, hr]
    rw [e1]
    have H := Lib.hid h
    subst hr
    clear h e1
    go_enter Tryd.func28, Tryd.ntmps28
    go_wp2
    go_end0
    refine ⟨rfl, ?_, ?_⟩
    · exact ((H.out.set 1 (.int .i64 (st.col + 1)) { st with col := st.col + 1 } rfl rfl rfl).set 0 (.int .i64 (st.line + 1)) { st with line := st.line + 1, col := st.col + 1 } rfl rfl rfl).set 1 (.int .i64 1) _ rfl rfl rfl
    · exact (((Keeps.refl _ _).setCell (p := ⟨b, 1, none⟩) (Or.inl (Or.inl rfl)) _).setCell (p := ⟨b, 0, none⟩) (Or.inl (Or.inl rfl)) _).setCell (p := ⟨b, 1, none⟩) (Or.inl (Or.inl rfl)) _
  · have e1 : st.over r = { st with col := st.col + 1 } := by simp [Rd.over, hr]
    rw [e1]
    have H := Lib.hid h
    have hr' : (r == 10) = false := by simpa using hr
    clear h e1 hr
    go_enter Tryd.func28, Tryd.ntmps28
    go_wp2
    go_end0
    exact ⟨rfl, H.out.set 1 (.int .i64 (st.col + 1)) _ rfl rfl rfl, (Keeps.refl _ _).setCell (p := ⟨b, 1, none⟩) (Or.inl (Or.inl rfl)) _⟩

def Rd.fail (st : Rd) (e l c : Int) : Rd := if st.wrong = 0 then { st with wrong := e, al := l, ac := c } else st

set_option maxRecDepth 100000 in
theorem fail_word (h : RS base w b st tA tc wA wc) (e l c : Int) :
    Calls Tryd.prog 26 #[.pointer (some ⟨b, 0, none⟩), .int .i64 e, .agg #[.int .i64 l, .int .i64 c]] w fun e' w' => e' = .returned (.tuple #[]) ∧ RS base w' b (st.fail e l c) tA tc wA wc ∧ Keeps (fun k => k = b ∨ base ≤ k) w w' := by
  have q := h.cells
  obtain ⟨_, _, _, _, _, _, _, c8, c9, c10⟩ := q
  have f8 := h.free 8
  have f9 := h.free 9
  have f10 := h.free 10
  have hlt := h.lt
  by_cases hw : st.wrong = 0
  · have e1 : st.fail e l c = { st with wrong := e, al := l, ac := c } := by simp [Rd.fail, hw]
    rw [e1]
    have H := Lib.hid h
    have hw1 : (st.wrong == 0) = true := by simpa using hw
    clear h e1 hw
    go_enter Tryd.func26, Tryd.ntmps26
    go_wp2
    go_region
    all_goals
      go_wp2
      go_end0
      refine ⟨rfl, ?_, ?_⟩
      · exact ((((H.out.set 8 (.int .i64 e) { st with wrong := e } rfl rfl rfl).set 9 (.int .i64 l) { st with wrong := e, al := l } rfl rfl rfl).set 10 (.int .i64 c) { st with wrong := e, al := l, ac := c } rfl rfl rfl).alloc _).drew
      · exact (((((Keeps.refl _ _).setCell (p := ⟨b, 8, none⟩) (Or.inl (Or.inl rfl)) _).setCell (p := ⟨b, 9, none⟩) (Or.inl (Or.inl rfl)) _).setCell (p := ⟨b, 10, none⟩) (Or.inl (Or.inl rfl)) _).alloc _).drew
  · have e1 : st.fail e l c = st := by simp [Rd.fail, hw]
    rw [e1]
    have H := Lib.hid h
    have hw1 : (st.wrong == 0) = false := by simpa using hw
    clear h e1 hw
    go_enter Tryd.func26, Tryd.ntmps26
    go_wp2
    go_end0
    exact ⟨rfl, H.out.alloc _, (Keeps.refl _ _).alloc _⟩

end

theorem info_word : (Tryd.prog.info? 33).map (fun i => (i.zero, i.size, i.bytes)) = some (some (.agg #[.int .i64 0, .string ⟨#[]⟩, .int .i64 0, .int .i64 0, .int .i64 0]), 5, 48) := by kernel_rfl

theorem info_rune : (Tryd.prog.info? 21).map (fun i => (i.zero, i.size, i.bytes)) = some (some (.int .i32 0), 1, 4) := by kernel_rfl

section
variable {base b : Nat} {st : Rd} {w : World} {tA wA : Option Addr} {tc wc : Nat}

theorem Wd.one (x : Wd) : ∀ u ∈ x.cells, u.oneCell' = true := by
  intro u hu
  simp [Wd.cells] at hu
  rcases hu with rfl | rfl | rfl | rfl | rfl <;> rfl

def Rd.put (st : Rd) (k : Int) (s : ByteArray) (n : Int) : Rd := { st with words := st.words ++ [⟨k, s, n, st.fl, st.fc⟩] }

/-- behind an append to the words: the reader's block, as it was -/
theorem RS.grown_words (h : RS base w b st tA tc wA wc) {o : Obj} {w1 : World} (hg : ((w.alloc o).drew).grownBy w1 (Value.slice wA st.words.length wc).ownBlock) : w1.heap[b]? = some (RdBlk tA tc wA wc st) := by
  rw [hg.block b (by have := h.lt; simp; omega) (fun e => own_ne h.words h.blk (by decide) e.symm)]
  exact blk_alloc h.blk o

theorem own_ge {w : World} {base : Nat} {e : TypeId} {size : Nat} {v : Value} {n : Nat} {xs : List Value} (h : w.ownsRow base e size v n xs) : ∀ k, v.ownBlock = some k → base ≤ k := fun k hk => (h.lt k hk).1

theorem RS.put_fin (h : RS base w b st tA tc wA wc) (x : Wd) {o : Obj} {w1 : World} {g cap : Nat}
    (hw1 : w1.ownsRow base 33 5 (.slice (some ⟨g, 0, none⟩) (st.words.length + 1) cap) (st.words.length + 1) (wcells st.words ++ x.cells))
    (hg : ((w.alloc o).drew).grownBy w1 (Value.slice wA st.words.length wc).ownBlock) :
    RSK base w (w1.setCell ⟨b, 7, none⟩ (.slice (some ⟨g, 0, none⟩) (st.words.length + 1) cap)) b { st with words := st.words ++ [x] } := by
  have hb := h.grown_words hg
  refine ⟨⟨tA, tc, some ⟨g, 0, none⟩, cap, ?_, ?_, ?_, by have h1 := hg.size; have h2 := h.size; simp [World.setCell] at h1 ⊢; omega⟩, ?_⟩
  · have := blk_set hb 7 (.slice (some ⟨g, 0, none⟩) (st.words.length + 1) cap)
    rw [this]
    simp [RdBlk]
  · have h1 : w1.ownsRow base 21 1 (.slice tA st.text.length tc) st.text.length (runes st.text) := World.ownsRow.kept (w := (w.alloc o).drew) (h.text.alloc o) hg (own_apart h.text h.words (by decide))
    exact own_set h1 (own_ne h.text h.blk (by decide)) 7 _
  · have h2 := own_set hw1 (b := b) (own_ne hw1 hb (by decide)) 7 (.slice (some ⟨g, 0, none⟩) (st.words.length + 1) cap)
    have e : wcells (st.words ++ [x]) = wcells st.words ++ x.cells := by simp [wcells]
    simp only [List.length_append, List.length_cons, List.length_nil]
    rw [e]
    exact h2
  · refine Keeps.setCell ?_ (p := ⟨b, 7, none⟩) (Or.inl (Or.inl rfl)) _
    exact (((Keeps.refl _ w).alloc o).drew).grown hg (fun k hk => Or.inl (Or.inr (own_ge h.words k hk)))

set_option maxRecDepth 100000 in
set_option maxHeartbeats 1000000 in
theorem put_word (h : RS base w b st tA tc wA wc) (k : Int) (s : ByteArray) (n : Int) (hn : st.words.length ≤ 1099511627776) :
    Calls Tryd.prog 55 #[.pointer (some ⟨b, 0, none⟩), .int .i64 k, .string s, .int .i64 n] w fun e' w' => e' = .returned (.tuple #[]) ∧ RSK base w w' b (st.put k s n) := by
  have q := h.cells
  obtain ⟨_, _, _, c3, c4, _, c7, _, _, _⟩ := q
  have f7 := h.free 7
  have hlt := h.lt
  obtain ⟨i0, hi, hz0, hz1, hz2⟩ := info_parts info_word
  have H := Lib.hid h
  have hown := Lib.hid h.words
  have hbase := h.size
  clear h
  go_enter Tryd.func55, Tryd.ntmps55
  go_wp2
  go_region_law (refine step_append_lies _ rfl (.tmp 12) (.tmp 27) 23 rfl base 33 i0 (.agg #[.int .i64 0, .string ⟨#[]⟩, .int .i64 0, .int .i64 0, .int .i64 0]) 5 48 Tryd.underlying23 hi hz0 hz1 hz2 rfl (by decide) (.slice wA st.words.length wc) st.words.length (wcells st.words) rfl (by exact hown.out.alloc _) ⟨w.heap.size, 0, none⟩ 1 1 (Wd.cells ⟨k, s, n, st.fl, st.fc⟩) rfl rfl (by exact World.news_of_block (blk_new w _)) (Wd.one _) (by decide) (by unfold maxLen; omega) (by omega) (by simp; omega) (w.heap.size + 1) (by simp) ?_; intro g cap w1 hw1 hw2 hw3 hw4; have hb1 := H.out.grown_words hw2; have q7 : w1.cell? ⟨b, 7, none⟩ = some (.slice wA st.words.length wc) := (blk_cell hb1 7).trans rfl; have f7 := blk_free hb1 7; have Hw1 := Lib.hid hw1; have Hw2 := Lib.hid hw2; clear hw1 hw2 hw3 hw4 hb1)
  all_goals
    go_wp2
    go_end0
    exact ⟨rfl, H.out.put_fin ⟨k, s, n, st.fl, st.fc⟩ Hw1.out Hw2.out⟩

end
end Go.Proofs.YtoibcaoaljglbaaDoor
