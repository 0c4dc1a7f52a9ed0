
/-
  The reader of package word: its state as Lean data (Rd), how it lies in memory (RS), and the contracts of over, fail, put.
-/
import Derived.Test.YtfpjdgobannneaaDoorProg
import Derived.Test.YtfpjdgobannneaaDoorMem
import Derived.Deep.QuietTactic
import Derived.BigQuiet
import Derived.Deep.RegionWith
import Derived.Deep.RegionLaw
import Derived.Deep.AppendLies
import Derived.Outline
import Derived.Test.YtfpjdgobannneaaDoorGlob
import Derived.Laws.Cover4
import Derived.Lib.AtoiAll
import Derived.Test.YtfpjdgobannneaaDoorShelf
import Derived.Lib.OthersKept
import Derived.Deep.LoopGhost
namespace Go.Proofs.YtfpjdgobannneaaDoor
open Go Go.RowKit

/-- a word -/
structure Wd where
  kind : Int
  text : ByteArray
  n : Int
  line : Int
  col : Int

def Wd.cells (x : Wd) : List Value := [.int .i64 x.kind, .string x.text, .int .i64 x.n, .int .i64 x.line, .int .i64 x.col]

structure Rd where
  line : Int
  col : Int
  state : Int
  fl : Int
  fc : Int
  text : List Int
  words : List Wd
  wrong : Int
  al : Int
  ac : Int

def runes (l : List Int) : List Value := l.map (Value.int .i32)

def wcells (l : List Wd) : List Value := l.flatMap Wd.cells

def RdBlk (tA : Option Addr) (tc : Nat) (wA : Option Addr) (wc : Nat) (st : Rd) : Obj :=
  .cells #[.int .i64 st.line, .int .i64 st.col, .int .i64 st.state, .int .i64 st.fl, .int .i64 st.fc, .slice tA st.text.length tc, .bool false,
    .slice wA st.words.length wc, .int .i64 st.wrong, .int .i64 st.al, .int .i64 st.ac] 107 (0, 0)

/-- the reader lies at block b; all that it owns was made from block base on -/
structure RS (base : Nat) (w : World) (b : Nat) (st : Rd) (tA : Option Addr) (tc : Nat) (wA : Option Addr) (wc : Nat) : Prop where
  blk : w.heap[b]? = some (RdBlk tA tc wA wc st)
  text : w.ownsRow base 21 1 (.slice tA st.text.length tc) st.text.length (runes st.text)
  words : w.ownsRow base 87 5 (.slice wA st.words.length wc) st.words.length (wcells st.words)
  size : base ≤ w.heap.size

/-- what the reader's methods leave -/
def RSK (base : Nat) (w w' : World) (b : Nat) (st : Rd) : Prop := (∃ tA tc wA wc, RS base w' b st tA tc wA wc) ∧ Keeps (fun k => k = b ∨ base ≤ k) w w'

/-- what is owned is at no block of another kind -/
theorem own_ne {w : World} {base : Nat} {e : TypeId} {size : Nat} {v : Value} {n : Nat} {xs : List Value} (h : w.ownsRow base e size v n xs) {b : Nat} {cs : Array Value} {t : TypeId} {fr : Nat × Nat}
    (hb : w.heap[b]? = some (.cells cs t fr)) (ht : t ≠ e) : v.ownBlock ≠ some b := by
  intro hv
  rcases h.2 with ⟨rfl, _⟩ | ⟨g, cap, cur, rfl, _, hg, _⟩
  · simp [Value.ownBlock] at hv
  · simp [Value.ownBlock] at hv
    subst hv
    rw [hb] at hg
    simp only [Option.some.injEq, Obj.cells.injEq] at hg
    exact ht hg.2.1

theorem own_apart {w : World} {base : Nat} {e e' : TypeId} {size size' : Nat} {v v' : Value} {n n' : Nat} {xs xs' : List Value} (h : w.ownsRow base e size v n xs) (h' : w.ownsRow base e' size' v' n' xs') (he : e ≠ e') :
    v.ownBlock = none ∨ v.ownBlock ≠ v'.ownBlock := by
  rcases h.2 with ⟨rfl, _⟩ | ⟨g, cap, cur, rfl, _, hg, _⟩
  · exact Or.inl rfl
  · right
    intro hv
    exact own_ne h' hg he (by rw [← hv]; rfl)

theorem grown_set (w : World) (b i : Nat) (u : Value) : w.grownBy (w.setCell ⟨b, i, none⟩ u) (some b) :=
  ⟨rfl, rfl, rfl, by simp [World.setCell], fun k _ hk => Below.heap_setCell _ _ _ _ (by intro e; exact hk (by rw [e]))⟩

theorem own_set {w : World} {base : Nat} {e : TypeId} {size : Nat} {v : Value} {n : Nat} {xs : List Value} (h : w.ownsRow base e size v n xs) {b : Nat} (hv : v.ownBlock ≠ some b) (i : Nat) (u : Value) :
    (w.setCell ⟨b, i, none⟩ u).ownsRow base e size v n xs := h.kept (grown_set w b i u) (Or.inr hv)

section
variable {base b : Nat} {st : Rd} {w : World} {tA wA : Option Addr} {tc wc : Nat}

theorem RS.cells (h : RS base w b st tA tc wA wc) : w.cell? ⟨b, 0, none⟩ = some (.int .i64 st.line) ∧ w.cell? ⟨b, 1, none⟩ = some (.int .i64 st.col) ∧ w.cell? ⟨b, 2, none⟩ = some (.int .i64 st.state) ∧
    w.cell? ⟨b, 3, none⟩ = some (.int .i64 st.fl) ∧ w.cell? ⟨b, 4, none⟩ = some (.int .i64 st.fc) ∧ w.cell? ⟨b, 5, none⟩ = some (.slice tA st.text.length tc) ∧ w.cell? ⟨b, 7, none⟩ = some (.slice wA st.words.length wc) ∧
    w.cell? ⟨b, 8, none⟩ = some (.int .i64 st.wrong) ∧ w.cell? ⟨b, 9, none⟩ = some (.int .i64 st.al) ∧ w.cell? ⟨b, 10, none⟩ = some (.int .i64 st.ac) :=
  ⟨(blk_cell h.blk 0).trans rfl, (blk_cell h.blk 1).trans rfl, (blk_cell h.blk 2).trans rfl, (blk_cell h.blk 3).trans rfl, (blk_cell h.blk 4).trans rfl, (blk_cell h.blk 5).trans rfl, (blk_cell h.blk 7).trans rfl,
    (blk_cell h.blk 8).trans rfl, (blk_cell h.blk 9).trans rfl, (blk_cell h.blk 10).trans rfl⟩

theorem RS.free (h : RS base w b st tA tc wA wc) (i : Nat) : w.frozen? ⟨b, i, none⟩ = false := blk_free h.blk i

theorem RS.lt (h : RS base w b st tA tc wA wc) : b < w.heap.size := lt_of_heap h.blk

/-- a store of a number into the reader's block: st' is st with that field turned -/
theorem RS.set (h : RS base w b st tA tc wA wc) (i : Nat) (u : Value) (st' : Rd) (ht : st'.text = st.text) (hw : st'.words = st.words)
    (he : (#[.int .i64 st.line, .int .i64 st.col, .int .i64 st.state, .int .i64 st.fl, .int .i64 st.fc, .slice tA st.text.length tc, .bool false,
    .slice wA st.words.length wc, .int .i64 st.wrong, .int .i64 st.al, .int .i64 st.ac] : Array Value).setIfInBounds i u = #[.int .i64 st'.line, .int .i64 st'.col, .int .i64 st'.state, .int .i64 st'.fl, .int .i64 st'.fc, .slice tA st.text.length tc, .bool false,
    .slice wA st.words.length wc, .int .i64 st'.wrong, .int .i64 st'.al, .int .i64 st'.ac]) : RS base (w.setCell ⟨b, i, none⟩ u) b st' tA tc wA wc := by
  refine ⟨?_, ?_, ?_, by simpa [World.setCell] using h.size⟩
  · have := blk_set h.blk i u
    rw [he] at this
    rw [this, RdBlk, ht, hw]
  · rw [ht]
    exact own_set h.text (own_ne h.text h.blk (by decide)) i u
  · rw [hw]
    exact own_set h.words (own_ne h.words h.blk (by decide)) i u

theorem RS.drew (h : RS base w b st tA tc wA wc) : RS base w.drew b st tA tc wA wc := ⟨h.blk, h.text, h.words, h.size⟩

theorem RS.drewN (h : RS base w b st tA tc wA wc) (n : Nat) : RS base (w.drewN n) b st tA tc wA wc := ⟨h.blk, h.text, h.words, h.size⟩

theorem RS.alloc (h : RS base w b st tA tc wA wc) (o : Obj) : RS base (w.alloc o) b st tA tc wA wc := ⟨blk_alloc h.blk o, h.text.alloc o, h.words.alloc o, by have := h.size; simp; omega⟩

def Rd.over (st : Rd) (r : Int) : Rd := if r = 10 then { st with line := st.line + 1, col := 1 } else { st with col := st.col + 1 }

theorem over_spot (h : RS base w b st tA tc wA wc) (r : Int) (hl : 0 ≤ st.line ∧ st.line ≤ 4611686018427387904) (hc : 0 ≤ st.col ∧ st.col ≤ 4611686018427387904) :
    Calls Tryd.prog 52 #[.pointer (some ⟨b, 0, none⟩), .int .i32 r] w fun e w' => e = .returned (.tuple #[]) ∧ RS base w' b (st.over r) tA tc wA wc ∧ Keeps (fun k => k = b ∨ base ≤ k) w w' := by
  have q := h.cells
  obtain ⟨c0, c1, _⟩ := q
  have f0 := h.free 0
  have f1 := h.free 1
  obtain ⟨hl1, hl2⟩ := hl
  obtain ⟨hc1, hc2⟩ := hc
  by_cases hr : r = 10
  · have e1 : st.over r = { st with line := st.line + 1, col := 1 } := by simp [Rd.over, hr]
    rw [e1]
    have H := Lib.hid h
    subst hr
    clear h e1
    go_enter Tryd.func52, Tryd.ntmps52
    go_wp2
    go_end0
    refine ⟨rfl, ?_, ?_⟩
    · exact ((H.out.set 1 (.int .i64 (st.col + 1)) { st with col := st.col + 1 } rfl rfl rfl).set 0 (.int .i64 (st.line + 1)) { st with line := st.line + 1, col := st.col + 1 } rfl rfl rfl).set 1 (.int .i64 1) _ rfl rfl rfl
    · exact (((Keeps.refl _ _).setCell (p := ⟨b, 1, none⟩) (Or.inl (Or.inl rfl)) _).setCell (p := ⟨b, 0, none⟩) (Or.inl (Or.inl rfl)) _).setCell (p := ⟨b, 1, none⟩) (Or.inl (Or.inl rfl)) _
  · have e1 : st.over r = { st with col := st.col + 1 } := by simp [Rd.over, hr]
    rw [e1]
    have H := Lib.hid h
    have hr' : (r == 10) = false := by simpa using hr
    clear h e1 hr
    go_enter Tryd.func52, Tryd.ntmps52
    go_wp2
    go_end0
    exact ⟨rfl, H.out.set 1 (.int .i64 (st.col + 1)) _ rfl rfl rfl, (Keeps.refl _ _).setCell (p := ⟨b, 1, none⟩) (Or.inl (Or.inl rfl)) _⟩

def Rd.fail (st : Rd) (e l c : Int) : Rd := if st.wrong = 0 then { st with wrong := e, al := l, ac := c } else st

set_option maxRecDepth 100000 in
theorem fail_word (h : RS base w b st tA tc wA wc) (e l c : Int) :
    Calls Tryd.prog 50 #[.pointer (some ⟨b, 0, none⟩), .int .i64 e, .agg #[.int .i64 l, .int .i64 c]] w fun e' w' => e' = .returned (.tuple #[]) ∧ RS base w' b (st.fail e l c) tA tc wA wc ∧ Keeps (fun k => k = b ∨ base ≤ k) w w' := by
  have q := h.cells
  obtain ⟨_, _, _, _, _, _, _, c8, c9, c10⟩ := q
  have f8 := h.free 8
  have f9 := h.free 9
  have f10 := h.free 10
  have hlt := h.lt
  by_cases hw : st.wrong = 0
  · have e1 : st.fail e l c = { st with wrong := e, al := l, ac := c } := by simp [Rd.fail, hw]
    rw [e1]
    have H := Lib.hid h
    have hw1 : (st.wrong == 0) = true := by simpa using hw
    clear h e1 hw
    go_enter Tryd.func50, Tryd.ntmps50
    go_wp2
    go_region
    all_goals
      go_wp2
      go_end0
      refine ⟨rfl, ?_, ?_⟩
      · exact ((((H.out.set 8 (.int .i64 e) { st with wrong := e } rfl rfl rfl).set 9 (.int .i64 l) { st with wrong := e, al := l } rfl rfl rfl).set 10 (.int .i64 c) { st with wrong := e, al := l, ac := c } rfl rfl rfl).alloc _).drew
      · exact (((((Keeps.refl _ _).setCell (p := ⟨b, 8, none⟩) (Or.inl (Or.inl rfl)) _).setCell (p := ⟨b, 9, none⟩) (Or.inl (Or.inl rfl)) _).setCell (p := ⟨b, 10, none⟩) (Or.inl (Or.inl rfl)) _).alloc _).drew
  · have e1 : st.fail e l c = st := by simp [Rd.fail, hw]
    rw [e1]
    have H := Lib.hid h
    have hw1 : (st.wrong == 0) = false := by simpa using hw
    clear h e1 hw
    go_enter Tryd.func50, Tryd.ntmps50
    go_wp2
    go_end0
    exact ⟨rfl, H.out.alloc _, (Keeps.refl _ _).alloc _⟩

end

theorem info_word : (Tryd.prog.info? 87).map (fun i => (i.zero, i.size, i.bytes)) = some (some (.agg #[.int .i64 0, .string ⟨#[]⟩, .int .i64 0, .int .i64 0, .int .i64 0]), 5, 48) := by kernel_rfl

theorem info_rune : (Tryd.prog.info? 21).map (fun i => (i.zero, i.size, i.bytes)) = some (some (.int .i32 0), 1, 4) := by kernel_rfl

section
variable {base b : Nat} {st : Rd} {w : World} {tA wA : Option Addr} {tc wc : Nat}

theorem Wd.one (x : Wd) : ∀ u ∈ x.cells, u.oneCell' = true := by
  intro u hu
  simp [Wd.cells] at hu
  rcases hu with rfl | rfl | rfl | rfl | rfl <;> rfl

def Rd.put (st : Rd) (k : Int) (s : ByteArray) (n : Int) : Rd := { st with words := st.words ++ [⟨k, s, n, st.fl, st.fc⟩] }

/-- behind an append to the words: the reader's block, as it was -/
theorem RS.grown_words (h : RS base w b st tA tc wA wc) {o : Obj} {w1 : World} (hg : ((w.alloc o).drew).grownBy w1 (Value.slice wA st.words.length wc).ownBlock) : w1.heap[b]? = some (RdBlk tA tc wA wc st) := by
  rw [hg.block b (by have := h.lt; simp; omega) (fun e => own_ne h.words h.blk (by decide) e.symm)]
  exact blk_alloc h.blk o

theorem own_ge {w : World} {base : Nat} {e : TypeId} {size : Nat} {v : Value} {n : Nat} {xs : List Value} (h : w.ownsRow base e size v n xs) : ∀ k, v.ownBlock = some k → base ≤ k := fun k hk => (h.lt k hk).1

theorem RS.put_fin (h : RS base w b st tA tc wA wc) (x : Wd) {o : Obj} {w1 : World} {g cap : Nat}
    (hw1 : w1.ownsRow base 87 5 (.slice (some ⟨g, 0, none⟩) (st.words.length + 1) cap) (st.words.length + 1) (wcells st.words ++ x.cells))
    (hg : ((w.alloc o).drew).grownBy w1 (Value.slice wA st.words.length wc).ownBlock) :
    RSK base w (w1.setCell ⟨b, 7, none⟩ (.slice (some ⟨g, 0, none⟩) (st.words.length + 1) cap)) b { st with words := st.words ++ [x] } := by
  have hb := h.grown_words hg
  refine ⟨⟨tA, tc, some ⟨g, 0, none⟩, cap, ?_, ?_, ?_, by have h1 := hg.size; have h2 := h.size; simp [World.setCell] at h1 ⊢; omega⟩, ?_⟩
  · have := blk_set hb 7 (.slice (some ⟨g, 0, none⟩) (st.words.length + 1) cap)
    rw [this]
    simp [RdBlk]
  · have h1 : w1.ownsRow base 21 1 (.slice tA st.text.length tc) st.text.length (runes st.text) := World.ownsRow.kept (w := (w.alloc o).drew) (h.text.alloc o) hg (own_apart h.text h.words (by decide))
    exact own_set h1 (own_ne h.text h.blk (by decide)) 7 _
  · have h2 := own_set hw1 (b := b) (own_ne hw1 hb (by decide)) 7 (.slice (some ⟨g, 0, none⟩) (st.words.length + 1) cap)
    have e : wcells (st.words ++ [x]) = wcells st.words ++ x.cells := by simp [wcells]
    simp only [List.length_append, List.length_cons, List.length_nil]
    rw [e]
    exact h2
  · refine Keeps.setCell ?_ (p := ⟨b, 7, none⟩) (Or.inl (Or.inl rfl)) _
    exact (((Keeps.refl _ w).alloc o).drew).grown hg (fun k hk => Or.inl (Or.inr (own_ge h.words k hk)))

set_option maxRecDepth 100000 in
set_option maxHeartbeats 1000000 in
theorem put_word (h : RS base w b st tA tc wA wc) (k : Int) (s : ByteArray) (n : Int) (hn : st.words.length ≤ 1099511627776) :
    Calls Tryd.prog 60 #[.pointer (some ⟨b, 0, none⟩), .int .i64 k, .string s, .int .i64 n] w fun e' w' => e' = .returned (.tuple #[]) ∧ RSK base w w' b (st.put k s n) := by
  have q := h.cells
  obtain ⟨_, _, _, c3, c4, _, c7, _, _, _⟩ := q
  have f7 := h.free 7
  have hlt := h.lt
  obtain ⟨i0, hi, hz0, hz1, hz2⟩ := info_parts info_word
  have H := Lib.hid h
  have hown := Lib.hid h.words
  have hbase := h.size
  clear h
  go_enter Tryd.func60, Tryd.ntmps60
  go_wp2
  go_region_law (refine step_append_lies _ rfl (.tmp 12) (.tmp 27) 82 rfl base 87 i0 (.agg #[.int .i64 0, .string ⟨#[]⟩, .int .i64 0, .int .i64 0, .int .i64 0]) 5 48 Tryd.underlying82 hi hz0 hz1 hz2 rfl (by decide) (.slice wA st.words.length wc) st.words.length (wcells st.words) rfl (by exact hown.out.alloc _) ⟨w.heap.size, 0, none⟩ 1 1 (Wd.cells ⟨k, s, n, st.fl, st.fc⟩) rfl rfl (by exact World.news_of_block (blk_new w _)) (Wd.one _) (by decide) (by unfold maxLen; omega) (by omega) (by simp; omega) (w.heap.size + 1) (by simp) ?_; intro g cap w1 hw1 hw2 hw3 hw4; have hb1 := H.out.grown_words hw2; have q7 : w1.cell? ⟨b, 7, none⟩ = some (.slice wA st.words.length wc) := (blk_cell hb1 7).trans rfl; have f7 := blk_free hb1 7; have Hw1 := Lib.hid hw1; have Hw2 := Lib.hid hw2; clear hw1 hw2 hw3 hw4 hb1)
  all_goals
    go_wp2
    go_end0
    exact ⟨rfl, H.out.put_fin ⟨k, s, n, st.fl, st.fc⟩ Hw1.out Hw2.out⟩

end
end Go.Proofs.YtfpjdgobannneaaDoor

/-
  The contracts of Letter, digit, Sign, and of the reader's begin.
-/
namespace Go.Proofs.YtfpjdgobannneaaDoor
open Go Go.RowKit

def letterB (r : Int) : Bool := r == 95 || (decide (97 ≤ r) && decide (r ≤ 122)) || (decide (945 ≤ r) && decide (r ≤ 969))

def digitB (r : Int) : Bool := decide (48 ≤ r) && decide (r ≤ 57)

def signB (r : Int) : Bool := r == 61 || r == 44 || r == 58 || r == 40 || r == 41 || r == 91 || r == 93 || r == 43 || r == 8594 || r == 8592 || r == 183

theorem digit_t (r : Int) (w : World) (h : digitB r = true) : Calls Tryd.prog 64 #[.int .i32 r] w fun e w' => e = .returned (.bool true) ∧ w = w' := by
  have h1 : 48 ≤ r ∧ r ≤ 57 := by simpa [digitB] using h
  obtain ⟨h1, h2⟩ := h1
  clear h
  go_enter Tryd.func64, Tryd.ntmps64
  go_wp2
  go_ret
  exact ⟨rfl, rfl⟩

theorem digit_f (r : Int) (w : World) (h : digitB r = false) : Calls Tryd.prog 64 #[.int .i32 r] w fun e w' => e = .returned (.bool false) ∧ w = w' := by
  have h1 : r < 48 ∨ 57 < r := by
    simp [digitB] at h
    omega
  clear h
  rcases h1 with h1 | h1
  · go_enter Tryd.func64, Tryd.ntmps64
    go_wp2
    go_ret
    exact ⟨rfl, rfl⟩
  · have h2 : 48 ≤ r := by omega
    have h3 : decide (r ≤ 57) = false := by simp; omega
    go_enter Tryd.func64, Tryd.ntmps64
    go_wp2
    go_ret
    exact ⟨rfl, rfl⟩

theorem Letter_t (r : Int) (w : World) (h : letterB r = true) : Calls Tryd.prog 63 #[.int .i32 r] w fun e w' => e = .returned (.bool true) ∧ w = w' := by
  have h1 : r = 95 ∨ (97 ≤ r ∧ r ≤ 122) ∨ (945 ≤ r ∧ r ≤ 969) := by
    simp [letterB] at h
    omega
  clear h
  rcases h1 with h1 | h1 | h1
  · subst h1
    go_enter Tryd.func63, Tryd.ntmps63
    go_wp2
    go_ret
    exact ⟨rfl, rfl⟩
  · obtain ⟨h1, h2⟩ := h1
    have h3 : (r == 95) = false := by simp; omega
    go_enter Tryd.func63, Tryd.ntmps63
    go_wp2
    go_ret
    exact ⟨rfl, rfl⟩
  · obtain ⟨h1, h2⟩ := h1
    have h3 : (r == 95) = false := by simp; omega
    have h4 : 97 ≤ r := by omega
    have h5 : ¬ r ≤ 122 := by omega
    go_enter Tryd.func63, Tryd.ntmps63
    go_wp2
    go_ret
    exact ⟨rfl, rfl⟩

theorem Letter_f (r : Int) (w : World) (h : letterB r = false) : Calls Tryd.prog 63 #[.int .i32 r] w fun e w' => e = .returned (.bool false) ∧ w = w' := by
  have h1 : r ≠ 95 ∧ (r < 97 ∨ 122 < r) ∧ (r < 945 ∨ 969 < r) := by
    simp [letterB] at h
    omega
  clear h
  obtain ⟨h0, h1, h2⟩ := h1
  have h3 : (r == 95) = false := by simpa using h0
  clear h0
  rcases h1 with h1 | h1
  · have h4 : ¬ 945 ≤ r := by omega
    clear h2
    go_enter Tryd.func63, Tryd.ntmps63
    go_wp2
    go_ret
    exact ⟨rfl, rfl⟩
  · rcases h2 with h2 | h2
    · have h4 : 97 ≤ r := by omega
      go_enter Tryd.func63, Tryd.ntmps63
      go_wp2
      go_ret
      exact ⟨rfl, rfl⟩
    · have h4 : 97 ≤ r := by omega
      have h5 : 945 ≤ r := by omega
      go_enter Tryd.func63, Tryd.ntmps63
      go_wp2
      go_ret
      exact ⟨rfl, rfl⟩

theorem Sign_t (r : Int) (w : World) (h : signB r = true) : Calls Tryd.prog 71 #[.int .i32 r] w fun e w' => e = .returned (.bool true) ∧ w = w' := by
  have h1 : r = 61 ∨ r = 44 ∨ r = 58 ∨ r = 40 ∨ r = 41 ∨ r = 91 ∨ r = 93 ∨ r = 43 ∨ r = 8594 ∨ r = 8592 ∨ r = 183 := by
    simp [signB] at h
    omega
  clear h
  rcases h1 with rfl | rfl | rfl | rfl | rfl | rfl | rfl | rfl | rfl | rfl | rfl
  all_goals
    go_enter Tryd.func71, Tryd.ntmps71
    go_wp2
    go_ret
    exact ⟨rfl, rfl⟩

theorem Sign_f (r : Int) (w : World) (h : signB r = false) : Calls Tryd.prog 71 #[.int .i32 r] w fun e w' => e = .returned (.bool false) ∧ w = w' := by
  have h1 : r ≠ 61 ∧ r ≠ 44 ∧ r ≠ 58 ∧ r ≠ 40 ∧ r ≠ 41 ∧ r ≠ 91 ∧ r ≠ 93 ∧ r ≠ 43 ∧ r ≠ 8594 ∧ r ≠ 8592 ∧ r ≠ 183 := by
    simp [signB] at h
    omega
  clear h
  obtain ⟨a1, a2, a3, a4, a5, a6, a7, a8, a9, a10, a11⟩ := h1
  have b1 : (r == 61) = false := by simpa using a1
  have b2 : (r == 44) = false := by simpa using a2
  have b3 : (r == 58) = false := by simpa using a3
  have b4 : (r == 40) = false := by simpa using a4
  have b5 : (r == 41) = false := by simpa using a5
  have b6 : (r == 91) = false := by simpa using a6
  have b7 : (r == 93) = false := by simpa using a7
  have b8 : (r == 43) = false := by simpa using a8
  have b9 : (r == 8594) = false := by simpa using a9
  have b10 : (r == 8592) = false := by simpa using a10
  have b11 : (r == 183) = false := by simpa using a11
  clear a1 a2 a3 a4 a5 a6 a7 a8 a9 a10 a11
  go_enter Tryd.func71, Tryd.ntmps71
  go_wp2
  go_ret
  exact ⟨rfl, rfl⟩

end Go.Proofs.YtfpjdgobannneaaDoor

/-
  The contract of the reader's begin.
-/
namespace Go.Proofs.YtfpjdgobannneaaDoor
open Go Go.RowKit

section
variable {base b : Nat} {st : Rd} {w : World} {tA wA : Option Addr} {tc wc : Nat}

def Rd.fresh (st : Rd) (c : Int) : Rd := { st with fl := st.line, fc := st.col, text := [c] }

def Rd.begin (st : Rd) (c : Int) : Rd :=
  if letterB c = true then { st.fresh c with state := 2 }
  else if digitB c = true then { st.fresh c with state := 4 }
  else if c = 45 then { st.fresh c with state := 3 }
  else if c = 59 then { st.fresh c with state := 1 }
  else if c = 10 then (st.fresh c).put 4 ⟨#[]⟩ 0
  else if signB c = true then (st.fresh c).put 3 (Utf8.encode c) 0
  else if c ≠ 32 ∧ c ≠ 9 then (st.fresh c).fail 6 st.line st.col
  else st.fresh c

theorem begin1 (h : RS base w b st tA tc wA wc) (c : Int) :
    RS base ((((w.setCell ⟨b, 3, none⟩ (.int .i64 st.line)).setCell ⟨b, 4, none⟩ (.int .i64 st.col)).setCell ⟨b, 5, none⟩ (.slice (some ⟨w.heap.size, 0, none⟩) 1 1)).alloc (.cells #[.int .i32 c] 21)) b (st.fresh c) (some ⟨w.heap.size, 0, none⟩) 1 wA wc ∧
    Keeps (fun k => k = b ∨ base ≤ k) w ((((w.setCell ⟨b, 3, none⟩ (.int .i64 st.line)).setCell ⟨b, 4, none⟩ (.int .i64 st.col)).setCell ⟨b, 5, none⟩ (.slice (some ⟨w.heap.size, 0, none⟩) 1 1)).alloc (.cells #[.int .i32 c] 21)) := by
  have h1 := (h.set 3 (.int .i64 st.line) { st with fl := st.line } rfl rfl rfl).set 4 (.int .i64 st.col) { st with fl := st.line, fc := st.col } rfl rfl rfl
  refine ⟨⟨?_, ?_, ?_, by have := h.size; simp [World.setCell]; omega⟩, ?_⟩
  · refine blk_alloc ?_ _
    exact blk_set h1.blk 5 _
  · refine ⟨rfl, Or.inr ⟨w.heap.size, 1, #[.int .i32 c], rfl, h.size, ?_, Nat.le_refl _, by decide, rfl, rfl⟩⟩
    have := blk_new (((w.setCell ⟨b, 3, none⟩ (.int .i64 st.line)).setCell ⟨b, 4, none⟩ (.int .i64 st.col)).setCell ⟨b, 5, none⟩ (.slice (some ⟨w.heap.size, 0, none⟩) 1 1)) (.cells #[.int .i32 c] 21)
    simpa [World.setCell] using this
  · exact (own_set h1.words (own_ne h1.words h1.blk (by decide)) 5 _).alloc _
  · exact ((((Keeps.refl _ _).setCell (p := ⟨b, 3, none⟩) (Or.inl (Or.inl rfl)) _).setCell (p := ⟨b, 4, none⟩) (Or.inl (Or.inl rfl)) _).setCell (p := ⟨b, 5, none⟩) (Or.inl (Or.inl rfl)) _).alloc _

set_option maxHeartbeats 400000 in
theorem begin_calls (h : RS base w b st tA tc wA wc) (c : Int) (hn : st.words.length ≤ 1099511627776) :
    Calls Tryd.prog 62 #[.pointer (some ⟨b, 0, none⟩), .int .i32 c] w fun e' w' => e' = .returned (.tuple #[]) ∧ RSK base w w' b (st.begin c) := by
  have q := h.cells
  obtain ⟨c0, c1, c2, c3, c4, c5, _⟩ := q
  have f2 := h.free 2
  have f3 := h.free 3
  have f4 := h.free 4
  have f5 := h.free 5
  have hlt := h.lt
  have H1 := begin1 h c
  clear h
  go_enter Tryd.func62, Tryd.ntmps62
  go_wp2_with fail
  obtain ⟨W, hW⟩ : ∃ W, W = ((((w.setCell ⟨b, 3, none⟩ (.int .i64 st.line)).setCell ⟨b, 4, none⟩ (.int .i64 st.col)).setCell ⟨b, 5, none⟩ (.slice (some ⟨w.heap.size, 0, none⟩) 1 1)).alloc (.cells #[.int .i32 c] 21)) := ⟨_, rfl⟩
  rw [← hW] at H1 ⊢
  clear hW
  obtain ⟨h1, hk⟩ := H1
  have c2' := h1.cells.2.2.1
  have c0' := h1.cells.1
  have c1' := h1.cells.2.1
  have f2' := h1.free 2
  have H := Lib.hid h1
  have Hk := Lib.hid hk
  have hs : (st.fresh c).words = st.words := rfl
  clear h1 hk c0 c1 c2 c3 c4 c5 f2 f3 f4 f5 hlt
  cases e1 : letterB c with
  | true =>
    have hl := Lib.hid (Letter_t c W e1)
    have e2 : st.begin c = { st.fresh c with state := 2 } := by simp [Rd.begin, e1]
    have Fin := Lib.hid (show RSK base w (W.setCell ⟨b, 2, none⟩ (.int .i64 2)) b (st.begin c) from by
      rw [e2]
      exact ⟨⟨_, _, _, _, H.out.set 2 (.int .i64 2) { st.fresh c with state := 2 } rfl rfl rfl⟩, Hk.out.setCell (p := ⟨b, 2, none⟩) (Or.inl (Or.inl rfl)) _⟩)
    clear e1 e2
    go_wp2_with (first | (go_at_call 63; refine hl.out.mono ?_; rintro e w' ⟨rfl, rfl⟩))
    go_end0
    exact ⟨rfl, Fin.out⟩
  | false =>
    have hl := Lib.hid (Letter_f c W e1)
    cases e2 : digitB c with
    | true =>
      have hd := Lib.hid (digit_t c W e2)
      have e3 : st.begin c = { st.fresh c with state := 4 } := by simp [Rd.begin, e1, e2]
      have Fin := Lib.hid (show RSK base w (W.setCell ⟨b, 2, none⟩ (.int .i64 4)) b (st.begin c) from by
        rw [e3]
        exact ⟨⟨_, _, _, _, H.out.set 2 (.int .i64 4) { st.fresh c with state := 4 } rfl rfl rfl⟩, Hk.out.setCell (p := ⟨b, 2, none⟩) (Or.inl (Or.inl rfl)) _⟩)
      clear e1 e2 e3
      go_wp2_with (first | (go_at_call 63; refine hl.out.mono ?_; rintro e w' ⟨rfl, rfl⟩) | (go_at_call 64; refine hd.out.mono ?_; rintro e w' ⟨rfl, rfl⟩))
      go_end0
      exact ⟨rfl, Fin.out⟩
    | false =>
      have hd := Lib.hid (digit_f c W e2)
      by_cases e3 : c = 45
      · have e4 : st.begin c = { st.fresh c with state := 3 } := by unfold Rd.begin; rw [if_neg (by rw [e1]; decide), if_neg (by rw [e2]; decide), if_pos e3]
        have Fin := Lib.hid (show RSK base w (W.setCell ⟨b, 2, none⟩ (.int .i64 3)) b (st.begin c) from by
          rw [e4]
          exact ⟨⟨_, _, _, _, H.out.set 2 (.int .i64 3) { st.fresh c with state := 3 } rfl rfl rfl⟩, Hk.out.setCell (p := ⟨b, 2, none⟩) (Or.inl (Or.inl rfl)) _⟩)
        have b3 : (c == 45) = true := by simpa using e3
        clear e1 e2 e3 e4
        go_wp2_with (first | (go_at_call 63; refine hl.out.mono ?_; rintro e w' ⟨rfl, rfl⟩) | (go_at_call 64; refine hd.out.mono ?_; rintro e w' ⟨rfl, rfl⟩))
        go_end0
        exact ⟨rfl, Fin.out⟩
      · have b3 : (c == 45) = false := by simpa using e3
        by_cases e4 : c = 59
        · have e5 : st.begin c = { st.fresh c with state := 1 } := by unfold Rd.begin; rw [if_neg (by rw [e1]; decide), if_neg (by rw [e2]; decide), if_neg e3, if_pos e4]
          have Fin := Lib.hid (show RSK base w (W.setCell ⟨b, 2, none⟩ (.int .i64 1)) b (st.begin c) from by
            rw [e5]
            exact ⟨⟨_, _, _, _, H.out.set 2 (.int .i64 1) { st.fresh c with state := 1 } rfl rfl rfl⟩, Hk.out.setCell (p := ⟨b, 2, none⟩) (Or.inl (Or.inl rfl)) _⟩)
          have b4 : (c == 59) = true := by simpa using e4
          clear e1 e2 e3 e4 e5
          go_wp2_with (first | (go_at_call 63; refine hl.out.mono ?_; rintro e w' ⟨rfl, rfl⟩) | (go_at_call 64; refine hd.out.mono ?_; rintro e w' ⟨rfl, rfl⟩))
          go_end0
          exact ⟨rfl, Fin.out⟩
        · have b4 : (c == 59) = false := by simpa using e4
          by_cases e5 : c = 10
          · have e6 : st.begin c = (st.fresh c).put 4 ⟨#[]⟩ 0 := by unfold Rd.begin; rw [if_neg (by rw [e1]; decide), if_neg (by rw [e2]; decide), if_neg e3, if_neg e4, if_pos e5]
            have Hp := Lib.hid (put_word H.out 4 ⟨#[]⟩ 0 hn)
            rw [← e6] at Hp
            have b5 : (c == 10) = true := by simpa using e5
            clear e1 e2 e3 e4 e5 e6
            go_wp2_with (first | (go_at_call 63; refine hl.out.mono ?_; rintro e w' ⟨rfl, rfl⟩) | (go_at_call 64; refine hd.out.mono ?_; rintro e w' ⟨rfl, rfl⟩) | (go_at_call 60; refine Hp.out.mono ?_; rintro e w1 ⟨rfl, h10⟩; have h1 := Lib.hid h10; clear h10))
            go_end0
            exact ⟨rfl, h1.out.1, Hk.out.trans h1.out.2⟩
          · have b5 : (c == 10) = false := by simpa using e5
            cases e6 : signB c with
            | true =>
              have hg := Lib.hid (Sign_t c W e6)
              have e7 : st.begin c = (st.fresh c).put 3 (Utf8.encode c) 0 := by unfold Rd.begin; rw [if_neg (by rw [e1]; decide), if_neg (by rw [e2]; decide), if_neg e3, if_neg e4, if_neg e5, if_pos e6]
              have Hp := Lib.hid (put_word H.out 3 (Utf8.encode c) 0 hn)
              rw [← e7] at Hp
              clear e1 e2 e3 e4 e5 e6 e7
              go_wp2_with (first | (go_at_call 63; refine hl.out.mono ?_; rintro e w' ⟨rfl, rfl⟩) | (go_at_call 64; refine hd.out.mono ?_; rintro e w' ⟨rfl, rfl⟩) | (go_at_call 71; refine hg.out.mono ?_; rintro e w' ⟨rfl, rfl⟩) | (go_at_call 60; refine Hp.out.mono ?_; rintro e w1 ⟨rfl, h10⟩; have h1 := Lib.hid h10; clear h10))
              go_end0
              exact ⟨rfl, h1.out.1, Hk.out.trans h1.out.2⟩
            | false =>
              have hg := Lib.hid (Sign_f c W e6)
              by_cases e7 : c = 32
              · have e9 : st.begin c = st.fresh c := by unfold Rd.begin; rw [if_neg (by rw [e1]; decide), if_neg (by rw [e2]; decide), if_neg e3, if_neg e4, if_neg e5, if_neg (by rw [e6]; decide), if_neg (fun q => q.1 e7)]
                have Fin := Lib.hid (show RSK base w W b (st.begin c) from by
                  rw [e9]
                  exact ⟨⟨_, _, _, _, H.out⟩, Hk.out⟩)
                have b7 : (c != 32) = false := by simpa using e7
                clear e1 e2 e3 e4 e5 e6 e7 e9
                go_wp2_with (first | (go_at_call 63; refine hl.out.mono ?_; rintro e w' ⟨rfl, rfl⟩) | (go_at_call 64; refine hd.out.mono ?_; rintro e w' ⟨rfl, rfl⟩) | (go_at_call 71; refine hg.out.mono ?_; rintro e w' ⟨rfl, rfl⟩))
                go_end0
                exact ⟨rfl, Fin.out⟩
              · have b7 : (c != 32) = true := by simpa using e7
                by_cases e8 : c = 9
                · have e9 : st.begin c = st.fresh c := by unfold Rd.begin; rw [if_neg (by rw [e1]; decide), if_neg (by rw [e2]; decide), if_neg e3, if_neg e4, if_neg e5, if_neg (by rw [e6]; decide), if_neg (fun q => q.2 e8)]
                  have Fin := Lib.hid (show RSK base w W b (st.begin c) from by
                    rw [e9]
                    exact ⟨⟨_, _, _, _, H.out⟩, Hk.out⟩)
                  have b8 : (c != 9) = false := by simpa using e8
                  clear e1 e2 e3 e4 e5 e6 e7 e8 e9
                  go_wp2_with (first | (go_at_call 63; refine hl.out.mono ?_; rintro e w' ⟨rfl, rfl⟩) | (go_at_call 64; refine hd.out.mono ?_; rintro e w' ⟨rfl, rfl⟩) | (go_at_call 71; refine hg.out.mono ?_; rintro e w' ⟨rfl, rfl⟩))
                  go_end0
                  exact ⟨rfl, Fin.out⟩
                · have b8 : (c != 9) = true := by simpa using e8
                  have e9 : st.begin c = (st.fresh c).fail 6 st.line st.col := by unfold Rd.begin; rw [if_neg (by rw [e1]; decide), if_neg (by rw [e2]; decide), if_neg e3, if_neg e4, if_neg e5, if_neg (by rw [e6]; decide), if_pos ⟨e7, e8⟩]
                  have Hf := Lib.hid (fail_word H.out 6 st.line st.col)
                  rw [← e9] at Hf
                  clear e1 e2 e3 e4 e5 e6 e7 e8 e9
                  go_wp2_with (first | (go_at_call 63; refine hl.out.mono ?_; rintro e w' ⟨rfl, rfl⟩) | (go_at_call 64; refine hd.out.mono ?_; rintro e w' ⟨rfl, rfl⟩) | (go_at_call 71; refine hg.out.mono ?_; rintro e w' ⟨rfl, rfl⟩) | (go_at_call 50; refine Hf.out.mono ?_; rintro e w1 ⟨rfl, h10⟩; have h1 := Lib.hid h10; clear h10))
                  go_end0
                  exact ⟨rfl, ⟨_, _, _, _, h1.out.1⟩, Hk.out.trans h1.out.2⟩

end
end Go.Proofs.YtfpjdgobannneaaDoor

/-
  The contract of the reader's close.
-/
namespace Go.Proofs.YtfpjdgobannneaaDoor
open Go Go.RowKit

/-- the number of a text, and whether it is none (or too great for an int) -/
def numOf (s : ByteArray) : Int × Bool := match Lib.atoiAll s.data.toList with
  | .ok v => (v, false)
  | .range => (Lib.atoiSat s.data.toList, true)
  | _ => (0, true)

/-- the contract of strconv.Atoi that the reader leans on -/
def AtoiSaid : Prop := ∀ (s : ByteArray) (w : World), s.size ≤ 281474976710656 → Glob w →
  Calls Tryd.prog 61 #[.string s] w fun e w' => (∃ ev, e = .returned (.tuple #[.int .i64 (numOf s).1, ev]) ∧ ((numOf s).2 = false → ev = .nilIface) ∧ ((numOf s).2 = true → ∃ t p, ev = .iface t (.pointer (some p)))) ∧ Keeps (fun _ => False) w w'

section
variable {base b : Nat} {st : Rd} {w : World} {tA wA : Option Addr} {tc wc : Nat}

theorem RS.conv (h : RS base w b st tA tc wA wc) : (convert 105 9 (.slice tA st.text.length tc)).run Tryd.prog w = .ok (.string (runesBytes st.text)) w := by
  rcases h.text.2 with ⟨hv, h0⟩ | ⟨g, cap, cur, hv, _, hg, hn, _, hs, ht⟩
  · simp only [Value.slice.injEq] at hv
    obtain ⟨a1, a2, a3⟩ := hv
    have : st.text = [] := List.eq_nil_of_length_eq_zero h0
    rw [this] at a2 ⊢
    rw [a1, a3]
    have q := run_convert_runes_nil (P := Tryd.prog) w 105 9 21 0 0 Tryd.underlying105 Tryd.underlying21 Tryd.underlying9
    simp only [List.length_nil, runesBytes, List.foldl_nil]
    rw [q]
  · simp only [Value.slice.injEq] at hv
    obtain ⟨a1, a2, a3⟩ := hv
    rw [a1]
    have q := run_convert_runes (P := Tryd.prog) w 105 9 21 ⟨g, 0, none⟩ st.text.length tc st.text (Nat.le_refl _) Tryd.underlying105 Tryd.underlying21 Tryd.underlying9 (by
      intro j hj
      refine h.text.cells (g := g) (by rw [a1]; rfl) j _ ?_
      simp [runes, List.getD, hj])
    rw [List.take_length] at q
    rw [q]

theorem RS.reset (h : RS base w b st tA tc wA wc) : RSK base w ((w.setCell ⟨b, 5, none⟩ (.slice none 0 0)).setCell ⟨b, 2, none⟩ (.int .i64 0)) b { st with text := [], state := 0 } := by
  refine ⟨⟨none, 0, wA, wc, ?_⟩, ?_⟩
  · have h1 : RS base (w.setCell ⟨b, 5, none⟩ (.slice none 0 0)) b { st with text := [] } none 0 wA wc := by
      refine ⟨blk_set h.blk 5 _, World.ownsRow_nil _ _ _ _, own_set h.words (own_ne h.words h.blk (by decide)) 5 _, by simpa [World.setCell] using h.size⟩
    exact h1.set 2 (.int .i64 0) { st with text := [], state := 0 } rfl rfl rfl
  · exact ((Keeps.refl _ _).setCell (p := ⟨b, 5, none⟩) (Or.inl (Or.inl rfl)) _).setCell (p := ⟨b, 2, none⟩) (Or.inl (Or.inl rfl)) _

def Rd.close1 (st : Rd) : Rd :=
  if st.state = 2 then (if 16 < st.text.length then st.fail 3 st.fl st.fc else st).put 1 (runesBytes st.text) 0
  else if st.state = 4 then (if (numOf (runesBytes st.text)).2 = true ∨ (numOf (runesBytes st.text)).1 < -1099511627776 ∨ 1099511627776 < (numOf (runesBytes st.text)).1 then st.fail 3 st.fl st.fc else st).put 2 (runesBytes st.text) (numOf (runesBytes st.text)).1
  else if st.state = 3 then st.fail 6 st.fl st.fc else st

def Rd.close (st : Rd) : Rd := { st.close1 with text := [], state := 0 }

theorem RSK.trans {base b : Nat} {w0 w1 w2 : World} {st : Rd} (h : Keeps (fun k => k = b ∨ base ≤ k) w0 w1) (k : RSK base w1 w2 b st) : RSK base w0 w2 b st := ⟨k.1, h.trans k.2⟩

theorem fail_words (st : Rd) (e l c : Int) : (st.fail e l c).words = st.words := by unfold Rd.fail; split <;> rfl

/-- the facts of a reader's block that its end wants -/
theorem RS.ends (h : RS base w b st tA tc wA wc) : w.cell? ⟨b, 5, none⟩ = some (.slice tA st.text.length tc) ∧ w.cell? ⟨b, 2, none⟩ = some (.int .i64 st.state) ∧ w.frozen? ⟨b, 5, none⟩ = false ∧ w.frozen? ⟨b, 2, none⟩ = false :=
  ⟨h.cells.2.2.2.2.2.1, h.cells.2.2.1, h.free 5, h.free 2⟩

theorem own_keep0 {w w' : World} {base : Nat} {e : TypeId} {size : Nat} {v : Value} {n : Nat} {xs : List Value} (h : w.ownsRow base e size v n xs) (hk : Keeps (fun _ => False) w w') : w'.ownsRow base e size v n xs :=
  h.kept (row := none) ⟨hk.os, hk.tape, hk.output, hk.size, fun k hk' _ => hk.block k hk' (by simp)⟩ (by cases v.ownBlock <;> simp)

theorem RS.keep0 {base b : Nat} {st : Rd} {w w' : World} {tA wA : Option Addr} {tc wc : Nat} (h : RS base w b st tA tc wA wc) (hk : Keeps (fun _ => False) w w') : RS base w' b st tA tc wA wc :=
  ⟨hk.heap h.blk (by simp), own_keep0 h.text hk, own_keep0 h.words hk, Nat.le_trans h.size hk.size⟩

@[go_sem] theorem err_ne_nil (t : TypeId) (p : Addr) (w : World) : (binOp .neq 70 (.iface t (.pointer (some p))) .nilIface).run Tryd.prog w = .ok (.bool true) w := by kernel_rfl

@[go_sem] theorem nil_eq_nil (w : World) : (binOp .neq 70 .nilIface .nilIface).run Tryd.prog w = .ok (.bool false) w := by kernel_rfl

set_option maxRecDepth 100000 in
set_option maxHeartbeats 1000000 in
theorem close_calls (hA : AtoiSaid) (hG : Glob w) (h : RS base w b st tA tc wA wc) (hn : st.words.length ≤ 1099511627776) (ht : st.text.length ≤ 1099511627776) :
    Calls Tryd.prog 49 #[.pointer (some ⟨b, 0, none⟩)] w fun e' w' => e' = .returned (.tuple #[]) ∧ RSK base w w' b st.close := by
  have q := h.cells
  obtain ⟨_, _, c2, c3, c4, c5, _⟩ := q
  have hc := h.conv
  have f5 := h.free 5
  have f2 := h.free 2
  have H := Lib.hid h
  clear h
  by_cases e2 : st.state = 2
  · have b2 : (st.state == 2) = true := by simpa using e2
    by_cases e3 : 16 < st.text.length
    · have e4 : st.close1 = (st.fail 3 st.fl st.fc).put 1 (runesBytes st.text) 0 := by unfold Rd.close1; rw [if_pos e2, if_pos e3]
      have Hf := Lib.hid (fail_word H.out 3 st.fl st.fc)
      have E4 := Lib.hid e4
      have b3 : decide ((16 : Int) < (st.text.length : Int)) = true := by simp; omega
      generalize hs : runesBytes st.text = s at *
      clear e2 e3 e4 hs hG
      go_enter Tryd.func49, Tryd.ntmps49
      go_wp2_with (first | (go_at_call 50; refine Hf.out.mono ?_; rintro e w1 ⟨rfl, h10⟩; have h1 := Lib.hid h10; clear h10) | (go_at_call 60; refine (put_word h1.out.1 1 s 0 (by rw [fail_words]; exact hn)).mono ?_; rintro e w2 ⟨rfl, h20⟩; rw [← E4.out] at h20; obtain ⟨⟨tA2, tc2, wA2, wc2, h21⟩, h22⟩ := h20; obtain ⟨d5, d2, g5, g2⟩ := h21.ends; have H2 := Lib.hid h21; have K2 := Lib.hid (h1.out.2.trans h22); clear h21 h22))
      go_end0
      exact ⟨rfl, H2.out.reset.trans K2.out⟩
    · have e4 : st.close1 = st.put 1 (runesBytes st.text) 0 := by unfold Rd.close1; rw [if_pos e2, if_neg e3]
      have E4 := Lib.hid e4
      have b3 : decide ((16 : Int) < (st.text.length : Int)) = false := by simp; omega
      generalize hs : runesBytes st.text = s at *
      clear e2 e3 e4 hs hG
      go_enter Tryd.func49, Tryd.ntmps49
      go_wp2_with (first | (go_at_call 60; refine (put_word H.out 1 s 0 hn).mono ?_; rintro e w2 ⟨rfl, h20⟩; rw [← E4.out] at h20; obtain ⟨⟨tA2, tc2, wA2, wc2, h21⟩, h22⟩ := h20; obtain ⟨d5, d2, g5, g2⟩ := h21.ends; have H2 := Lib.hid h21; have K2 := Lib.hid (h22); clear h21 h22))
      go_end0
      exact ⟨rfl, H2.out.reset.trans K2.out⟩
  · have b2 : (st.state == 2) = false := by simpa using e2
    by_cases e3 : st.state = 4
    · have b3 : (st.state == 4) = true := by simpa using e3
      have hsz := runesBytes_size_le st.text
      have hAt := Lib.hid (hA (runesBytes st.text) w (by omega) hG)
      have hcl : st.close1 = (if (numOf (runesBytes st.text)).2 = true ∨ (numOf (runesBytes st.text)).1 < -1099511627776 ∨ 1099511627776 < (numOf (runesBytes st.text)).1 then st.fail 3 st.fl st.fc else st).put 2 (runesBytes st.text) (numOf (runesBytes st.text)).1 := by
        unfold Rd.close1; rw [if_neg e2, if_pos e3]
      generalize hs : runesBytes st.text = s at *
      generalize hnn : (numOf s).1 = n at *
      cases hbad : (numOf s).2 with
      | true =>
        have e4 : st.close1 = (st.fail 3 st.fl st.fc).put 2 s n := by rw [hcl, if_pos (Or.inl hbad)]
        have E4 := Lib.hid e4
        have Hb := Lib.hid hbad
        clear e2 e3 e4 hs hG hcl hsz hbad hnn
        go_enter Tryd.func49, Tryd.ntmps49
        go_wp2_with (first | (go_at_call 61; refine hAt.out.mono ?_; rintro e w1 ⟨⟨ev, rfl, hv1, hv2⟩, hk0⟩; obtain ⟨et, ep, rfl⟩ := hv2 Hb.out; have hr := H.out.keep0 hk0; have r3 := hr.cells.2.2.2.1; have r4 := hr.cells.2.2.2.2.1; have h1 := Lib.hid hr; have hk1 := Lib.hid hk0; clear hr hk0 hv1 hv2) | (go_at_call 50; refine (fail_word h1.out 3 st.fl st.fc).mono ?_; rintro e wf ⟨rfl, hf0⟩; have hf1 := Lib.hid hf0; clear hf0) | (go_at_call 60; refine (put_word hf1.out.1 2 s n (by rw [fail_words]; exact hn)).mono ?_; rintro e w2 ⟨rfl, h20⟩; rw [← E4.out] at h20; obtain ⟨⟨tA2, tc2, wA2, wc2, h21⟩, h22⟩ := h20; obtain ⟨d5, d2, g5, g2⟩ := h21.ends; have H2 := Lib.hid h21; have K2 := Lib.hid (((hk1.out.mono (fun _ _ q => q.elim)).trans hf1.out.2).trans h22); clear h21 h22))
        go_end0
        exact ⟨rfl, H2.out.reset.trans K2.out⟩
      | false =>
        by_cases hlo : n < -1099511627776
        · have e4 : st.close1 = (st.fail 3 st.fl st.fc).put 2 s n := by rw [hcl, if_pos (Or.inr (Or.inl hlo))]
          have E4 := Lib.hid e4
          have Hb := Lib.hid hbad
          clear e2 e3 e4 hs hG hcl hsz hbad hnn
          go_enter Tryd.func49, Tryd.ntmps49
          go_wp2_with (first | (go_at_call 61; refine hAt.out.mono ?_; rintro e w1 ⟨⟨ev, rfl, hv1, hv2⟩, hk0⟩; obtain rfl := hv1 Hb.out; have hr := H.out.keep0 hk0; have r3 := hr.cells.2.2.2.1; have r4 := hr.cells.2.2.2.2.1; have h1 := Lib.hid hr; have hk1 := Lib.hid hk0; clear hr hk0 hv1 hv2) | (go_at_call 50; refine (fail_word h1.out 3 st.fl st.fc).mono ?_; rintro e wf ⟨rfl, hf0⟩; have hf1 := Lib.hid hf0; clear hf0) | (go_at_call 60; refine (put_word hf1.out.1 2 s n (by rw [fail_words]; exact hn)).mono ?_; rintro e w2 ⟨rfl, h20⟩; rw [← E4.out] at h20; obtain ⟨⟨tA2, tc2, wA2, wc2, h21⟩, h22⟩ := h20; obtain ⟨d5, d2, g5, g2⟩ := h21.ends; have H2 := Lib.hid h21; have K2 := Lib.hid (((hk1.out.mono (fun _ _ q => q.elim)).trans hf1.out.2).trans h22); clear h21 h22))
          go_end0
          exact ⟨rfl, H2.out.reset.trans K2.out⟩
        · by_cases hhi : 1099511627776 < n
          · have e4 : st.close1 = (st.fail 3 st.fl st.fc).put 2 s n := by rw [hcl, if_pos (Or.inr (Or.inr hhi))]
            have E4 := Lib.hid e4
            have Hb := Lib.hid hbad
            clear e2 e3 e4 hs hG hcl hsz hbad hnn
            go_enter Tryd.func49, Tryd.ntmps49
            go_wp2_with (first | (go_at_call 61; refine hAt.out.mono ?_; rintro e w1 ⟨⟨ev, rfl, hv1, hv2⟩, hk0⟩; obtain rfl := hv1 Hb.out; have hr := H.out.keep0 hk0; have r3 := hr.cells.2.2.2.1; have r4 := hr.cells.2.2.2.2.1; have h1 := Lib.hid hr; have hk1 := Lib.hid hk0; clear hr hk0 hv1 hv2) | (go_at_call 50; refine (fail_word h1.out 3 st.fl st.fc).mono ?_; rintro e wf ⟨rfl, hf0⟩; have hf1 := Lib.hid hf0; clear hf0) | (go_at_call 60; refine (put_word hf1.out.1 2 s n (by rw [fail_words]; exact hn)).mono ?_; rintro e w2 ⟨rfl, h20⟩; rw [← E4.out] at h20; obtain ⟨⟨tA2, tc2, wA2, wc2, h21⟩, h22⟩ := h20; obtain ⟨d5, d2, g5, g2⟩ := h21.ends; have H2 := Lib.hid h21; have K2 := Lib.hid (((hk1.out.mono (fun _ _ q => q.elim)).trans hf1.out.2).trans h22); clear h21 h22))
            go_end0
            exact ⟨rfl, H2.out.reset.trans K2.out⟩
          · have e4 : st.close1 = st.put 2 s n := by rw [hcl, if_neg (by rw [hbad]; simp; omega)]
            have E4 := Lib.hid e4
            have Hb := Lib.hid hbad
            clear e2 e3 e4 hs hG hcl hsz hbad hnn
            go_enter Tryd.func49, Tryd.ntmps49
            go_wp2_with (first | (go_at_call 61; refine hAt.out.mono ?_; rintro e w1 ⟨⟨ev, rfl, hv1, hv2⟩, hk0⟩; obtain rfl := hv1 Hb.out; have hr := H.out.keep0 hk0; have r3 := hr.cells.2.2.2.1; have r4 := hr.cells.2.2.2.2.1; have h1 := Lib.hid hr; have hk1 := Lib.hid hk0; clear hr hk0 hv1 hv2) | (go_at_call 60; refine (put_word h1.out 2 s n hn).mono ?_; rintro e w2 ⟨rfl, h20⟩; rw [← E4.out] at h20; obtain ⟨⟨tA2, tc2, wA2, wc2, h21⟩, h22⟩ := h20; obtain ⟨d5, d2, g5, g2⟩ := h21.ends; have H2 := Lib.hid h21; have K2 := Lib.hid ((hk1.out.mono (fun _ _ q => q.elim)).trans h22); clear h21 h22))
            go_end0
            exact ⟨rfl, H2.out.reset.trans K2.out⟩
    · have b3 : (st.state == 4) = false := by simpa using e3
      by_cases e4 : st.state = 3
      · have b4 : (st.state == 3) = true := by simpa using e4
        have e5 : st.close1 = st.fail 6 st.fl st.fc := by unfold Rd.close1; rw [if_neg e2, if_neg e3, if_pos e4]
        have Hf := fail_word H.out 6 st.fl st.fc
        rw [← e5] at Hf
        have HF := Lib.hid Hf
        clear e2 e3 e4 e5 hG Hf
        go_enter Tryd.func49, Tryd.ntmps49
        go_wp2_with (first | (go_at_call 50; refine HF.out.mono ?_; rintro e w2 ⟨rfl, h21, h22⟩; obtain ⟨d5, d2, g5, g2⟩ := h21.ends; have H2 := Lib.hid h21; have K2 := Lib.hid h22; clear h21 h22))
        go_end0
        exact ⟨rfl, H2.out.reset.trans K2.out⟩
      · have b4 : (st.state == 3) = false := by simpa using e4
        have e5 : st.close1 = st := by unfold Rd.close1; rw [if_neg e2, if_neg e3, if_neg e4]
        have Fin := H.out.reset
        have e6 : st.close = { st with text := [], state := 0 } := by unfold Rd.close; rw [e5]
        rw [← e6] at Fin
        have FIN := Lib.hid Fin
        clear e2 e3 e4 e5 e6 hG Fin
        go_enter Tryd.func49, Tryd.ntmps49
        go_wp2
        go_end0
        exact ⟨rfl, FIN.out⟩

end
end Go.Proofs.YtfpjdgobannneaaDoor

/-
  strconv.Atoi as the reader leans on it; the contract of the reader's take.
-/
namespace Go.Proofs.YtfpjdgobannneaaDoor
open Go Go.RowKit

theorem keeps_bytesWorld (S : Nat → Prop) (w : World) (e : TypeId) (t : ByteArray) : Keeps S w (Lib.bytesWorld w e t) := by
  unfold Lib.bytesWorld
  exact (((Keeps.refl S w).drew).alloc _).freeze (p := ⟨w.heap.size, _, none⟩) (Or.inr (Nat.le_refl _)) 1

theorem Atoi_holds : AtoiSaid := by
  intro s w hs hG
  cases h : Lib.atoiAll s.data.toList with
  | ok v =>
    have e1 : numOf s = (v, false) := by simp [numOf, h]
    rw [e1]
    refine (Tryd.strconv_Atoi_ok s (by omega) v h w).mono ?_
    rintro e w' ⟨rfl, hw⟩
    refine ⟨⟨_, rfl, fun _ => rfl, fun q => by simp at q⟩, ?_⟩
    rcases hw with rfl | ⟨t, rfl⟩
    · exact Keeps.refl _ _
    · exact keeps_bytesWorld _ _ _ _
  | range =>
    have e1 : numOf s = (Lib.atoiSat s.data.toList, true) := by simp [numOf, h]
    rw [e1]
    obtain ⟨tp, p, hv⟩ := hG.rng
    refine (Tryd.strconv_Atoi_range s hs h _ w hv (Or.inr ⟨tp, p, rfl⟩)).mono ?_
    rintro e w' ⟨N, rfl, _, _, hb⟩
    exact ⟨⟨_, rfl, fun q => by simp at q, fun _ => ⟨_, _, rfl⟩⟩, Keeps.of_below hb _⟩
  | _ =>
    have e1 : numOf s = (0, true) := by simp [numOf, h]
    rw [e1]
    obtain ⟨tp, p, hv⟩ := hG.syn
    refine (Tryd.strconv_Atoi_syntax s hs h _ w hv (Or.inr ⟨tp, p, rfl⟩)).mono ?_
    rintro e w' ⟨N, rfl, _, _, hb⟩
    exact ⟨⟨_, rfl, fun q => by simp at q, fun _ => ⟨_, _, rfl⟩⟩, Keeps.of_below hb _⟩

end Go.Proofs.YtfpjdgobannneaaDoor

/-
  The contract of the reader's take.
-/
namespace Go.Proofs.YtfpjdgobannneaaDoor
open Go Go.RowKit

section
variable {base b : Nat} {st : Rd} {w : World} {tA wA : Option Addr} {tc wc : Nat}

def Rd.more (st : Rd) (c : Int) : Rd := { st with text := st.text ++ [c] }

theorem RS.grown_text (h : RS base w b st tA tc wA wc) {o : Obj} {w1 : World} (hg : (w.alloc o).grownBy w1 (Value.slice tA st.text.length tc).ownBlock) : w1.heap[b]? = some (RdBlk tA tc wA wc st) := by
  rw [hg.block b (by have := h.lt; simp; omega) (fun e => own_ne h.text h.blk (by decide) e.symm)]
  exact blk_alloc h.blk o

theorem RS.text_fin (h : RS base w b st tA tc wA wc) (c : Int) {o : Obj} {w1 : World} {g cap : Nat}
    (hw1 : w1.ownsRow base 21 1 (.slice (some ⟨g, 0, none⟩) (st.text.length + 1) cap) (st.text.length + 1) (runes st.text ++ [.int .i32 c]))
    (hg : (w.alloc o).grownBy w1 (Value.slice tA st.text.length tc).ownBlock) :
    RS base (w1.setCell ⟨b, 5, none⟩ (.slice (some ⟨g, 0, none⟩) (st.text.length + 1) cap)) b (st.more c) (some ⟨g, 0, none⟩) cap wA wc ∧ Keeps (fun k => k = b ∨ base ≤ k) w (w1.setCell ⟨b, 5, none⟩ (.slice (some ⟨g, 0, none⟩) (st.text.length + 1) cap)) := by
  have hb := h.grown_text hg
  refine ⟨⟨?_, ?_, ?_, by have h1 := hg.size; have h2 := h.size; simp [World.setCell] at h1 ⊢; omega⟩, ?_⟩
  · have := blk_set hb 5 (.slice (some ⟨g, 0, none⟩) (st.text.length + 1) cap)
    rw [this]
    simp [RdBlk, Rd.more]
  · have h2 := own_set hw1 (b := b) (own_ne hw1 hb (by decide)) 5 (.slice (some ⟨g, 0, none⟩) (st.text.length + 1) cap)
    have e : runes (st.text ++ [c]) = runes st.text ++ [.int .i32 c] := by simp [runes]
    simp only [Rd.more, List.length_append, List.length_cons, List.length_nil]
    rw [e]
    exact h2
  · have h1 : w1.ownsRow base 87 5 (.slice wA st.words.length wc) st.words.length (wcells st.words) := World.ownsRow.kept (w := w.alloc o) (h.words.alloc o) hg (own_apart h.words h.text (by decide))
    exact own_set h1 (own_ne h.words h.blk (by decide)) 5 _
  · refine Keeps.setCell ?_ (p := ⟨b, 5, none⟩) (Or.inl (Or.inl rfl)) _
    exact ((Keeps.refl _ w).alloc o).grown hg (fun k hk => Or.inl (Or.inr (own_ge h.text k hk)))

def Rd.take (st : Rd) (c : Int) : Rd :=
  if st.state = 1 then (if c = 10 then { st with state := 0 }.begin 10 else st)
  else if st.state = 2 ∧ (letterB c = true ∨ digitB c = true) then st.more c
  else if (st.state = 3 ∨ st.state = 4) ∧ digitB c = true then { st.more c with state := 4 }
  else if st.state = 4 ∧ letterB c = true then ((st.close.fail 6 st.line st.col).close).begin c
  else st.close.begin c

theorem one_rune (c : Int) : ∀ u ∈ [Value.int .i32 c], u.oneCell' = true := by
  intro u hu
  simp at hu
  subst hu
  rfl

set_option maxRecDepth 100000 in
set_option maxHeartbeats 1000000 in
theorem take_remark (h : RS base w b st tA tc wA wc) (hs : st.state = 1) (c : Int) (hn : st.words.length ≤ 1099511627776) :
    Calls Tryd.prog 51 #[.pointer (some ⟨b, 0, none⟩), .int .i32 c] w fun e' w' => e' = .returned (.tuple #[]) ∧ RSK base w w' b (st.take c) := by
  have c2 := h.cells.2.2.1
  have f2 := h.free 2
  rw [hs] at c2
  have H := Lib.hid h
  clear h
  by_cases e1 : c = 10
  · subst e1
    have e2 : st.take 10 = { st with state := 0 }.begin 10 := by unfold Rd.take; rw [if_pos hs, if_pos rfl]
    have h1 := H.out.set 2 (.int .i64 0) { st with state := 0 } rfl rfl rfl
    have hk : Keeps (fun k => k = b ∨ base ≤ k) w (w.setCell ⟨b, 2, none⟩ (.int .i64 0)) := (Keeps.refl _ _).setCell (p := ⟨b, 2, none⟩) (Or.inl (Or.inl rfl)) _
    have hb := begin_calls h1 10 hn
    rw [← e2] at hb
    have Hb := Lib.hid hb
    have Hk := Lib.hid hk
    clear hs e2 h1 hk hb
    go_enter Tryd.func51, Tryd.ntmps51
    go_wp2_with (first | (go_at_call 62; refine Hb.out.mono ?_; rintro e w1 ⟨rfl, h10⟩; have h1 := Lib.hid h10; clear h10))
    refine bodyPost_ret (v := .tuple #[]) (by simp [results, Tryd.results51, go_sem]) rfl ?_
    exact ⟨rfl, h1.out.1, Hk.out.trans h1.out.2⟩
  · have e2 : st.take c = st := by unfold Rd.take; rw [if_pos hs, if_neg e1]
    have e3 : (c == 10) = false := by simpa using e1
    have Fin := Lib.hid (show RSK base w w b (st.take c) from by rw [e2]; exact ⟨⟨_, _, _, _, H.out⟩, Keeps.refl _ _⟩)
    clear hs e1 e2
    go_enter Tryd.func51, Tryd.ntmps51
    go_wp2
    refine bodyPost_ret (v := .tuple #[]) (by simp [results, Tryd.results51, go_sem]) rfl ?_
    exact ⟨rfl, Fin.out⟩

set_option maxRecDepth 100000 in
set_option maxHeartbeats 1000000 in
theorem take_more (h : RS base w b st tA tc wA wc) (hs : st.state = 2) (c : Int) (hc : letterB c = true ∨ digitB c = true) (ht : st.text.length ≤ 1099511627776) :
    Calls Tryd.prog 51 #[.pointer (some ⟨b, 0, none⟩), .int .i32 c] w fun e' w' => e' = .returned (.tuple #[]) ∧ RSK base w w' b (st.take c) := by
  have e2 : st.take c = st.more c := by unfold Rd.take; rw [if_neg (by rw [hs]; decide), if_pos ⟨hs, hc⟩]
  rw [e2]
  have c2 := h.cells.2.2.1
  have c5 := h.cells.2.2.2.2.2.1
  have f5 := h.free 5
  rw [hs] at c2
  obtain ⟨i0, hi, hz0, hz1, hz2⟩ := info_parts info_rune
  have hown := Lib.hid h.text
  have hbase := h.size
  have hlt := h.lt
  have H := Lib.hid h
  clear h hs e2
  have fin : ∀ (o : Obj) (w1 : World) (g cap : Nat),
    w1.ownsRow base 21 1 (.slice (some ⟨g, 0, none⟩) (st.text.length + 1) cap) (st.text.length + 1) (runes st.text ++ [.int .i32 c]) →
    (w.alloc o).grownBy w1 (Value.slice tA st.text.length tc).ownBlock → RSK base w (w1.setCell ⟨b, 5, none⟩ (.slice (some ⟨g, 0, none⟩) (st.text.length + 1) cap)) b (st.more c) := fun o w1 g cap a1 a2 => by
      obtain ⟨q1, q2⟩ := H.out.text_fin c a1 a2
      exact ⟨⟨_, _, _, _, q1⟩, q2⟩
  have Fin := Lib.hid fin
  clear fin
  cases e1 : letterB c with
  | true =>
    have hl := Lib.hid (Letter_t c w e1)
    clear e1 hc
    go_enter Tryd.func51, Tryd.ntmps51
    go_wp2_with (first | (go_at_call 63; refine hl.out.mono ?_; rintro e w' ⟨rfl, rfl⟩) | (at_builtin; refine wpList_append_lies _ rfl (.tmp 31) (.tmp 33) 105 rfl base 21 i0 (.int .i32 0) 1 4 Tryd.underlying105 hi hz0 hz1 hz2 rfl (by decide) (.slice tA st.text.length tc) st.text.length (runes st.text) rfl (by exact hown.out.alloc _) ⟨w.heap.size, 0, none⟩ 1 1 [.int .i32 c] rfl rfl (by exact World.news_of_block (blk_new w _)) (one_rune c) (by decide) (by unfold maxLen; omega) (by omega) (by simp; omega) (w.heap.size + 1) (by simp) ?_; intro g cap w1 hw1 hw2 hw3 hw4; have hb1 := H.out.grown_text hw2; have q5 : w1.cell? ⟨b, 5, none⟩ = some (.slice tA st.text.length tc) := (blk_cell hb1 5).trans rfl; have g5 := blk_free hb1 5; have Hw1 := Lib.hid hw1; have Hw2 := Lib.hid hw2; clear hw1 hw2 hw3 hw4 hb1))
    refine bodyPost_ret (v := .tuple #[]) (by simp [results, Tryd.results51, go_sem]) rfl ?_
    exact ⟨rfl, Fin.out _ _ _ _ Hw1.out Hw2.out⟩
  | false =>
    have hd := Lib.hid (digit_t c w (by rcases hc with q | q; rw [e1] at q; cases q; exact q))
    have hl := Lib.hid (Letter_f c w e1)
    clear e1 hc
    go_enter Tryd.func51, Tryd.ntmps51
    go_wp2_with (first | (go_at_call 63; refine hl.out.mono ?_; rintro e w' ⟨rfl, rfl⟩) | (go_at_call 64; refine hd.out.mono ?_; rintro e w' ⟨rfl, rfl⟩) | (at_builtin; refine wpList_append_lies _ rfl (.tmp 31) (.tmp 33) 105 rfl base 21 i0 (.int .i32 0) 1 4 Tryd.underlying105 hi hz0 hz1 hz2 rfl (by decide) (.slice tA st.text.length tc) st.text.length (runes st.text) rfl (by exact hown.out.alloc _) ⟨w.heap.size, 0, none⟩ 1 1 [.int .i32 c] rfl rfl (by exact World.news_of_block (blk_new w _)) (one_rune c) (by decide) (by unfold maxLen; omega) (by omega) (by simp; omega) (w.heap.size + 1) (by simp) ?_; intro g cap w1 hw1 hw2 hw3 hw4; have hb1 := H.out.grown_text hw2; have q5 : w1.cell? ⟨b, 5, none⟩ = some (.slice tA st.text.length tc) := (blk_cell hb1 5).trans rfl; have g5 := blk_free hb1 5; have Hw1 := Lib.hid hw1; have Hw2 := Lib.hid hw2; clear hw1 hw2 hw3 hw4 hb1))
    refine bodyPost_ret (v := .tuple #[]) (by simp [results, Tryd.results51, go_sem]) rfl ?_
    exact ⟨rfl, Fin.out _ _ _ _ Hw1.out Hw2.out⟩

end
end Go.Proofs.YtfpjdgobannneaaDoor

/-
  The contract of the reader's take, whole.
-/
namespace Go.Proofs.YtfpjdgobannneaaDoor
open Go Go.RowKit

section
variable {base b : Nat} {st : Rd} {w : World} {tA wA : Option Addr} {tc wc : Nat}

theorem close1_words (st : Rd) : st.close1.words.length ≤ st.words.length + 1 := by
  unfold Rd.close1
  split
  · split <;> simp [Rd.put, fail_words]
  · split
    · split <;> simp [Rd.put, fail_words]
    · split <;> simp [fail_words]

theorem close_words (st : Rd) : st.close.words.length ≤ st.words.length + 1 := close1_words st

theorem glob_rd {w w' : World} (h : Glob w) (hk : Keeps (fun k => k = b ∨ base ≤ k) w w') (hb : 4 ≤ b) (hbase : 4 ≤ base) : Glob w' :=
  h.keeps hk (fun k hk => by omega)

set_option maxRecDepth 100000 in
set_option maxHeartbeats 1000000 in
theorem take_digit (h : RS base w b st tA tc wA wc) (hs : st.state = 3 ∨ st.state = 4) (c : Int) (hc : digitB c = true) (ht : st.text.length ≤ 1099511627776) :
    Calls Tryd.prog 51 #[.pointer (some ⟨b, 0, none⟩), .int .i32 c] w fun e' w' => e' = .returned (.tuple #[]) ∧ RSK base w w' b (st.take c) := by
  have e2 : st.take c = { st.more c with state := 4 } := by
    unfold Rd.take
    rw [if_neg (by rcases hs with q | q <;> rw [q] <;> decide), if_neg (by rintro ⟨q, _⟩; rcases hs with r | r <;> rw [r] at q <;> exact absurd q (by decide)), if_pos ⟨hs, hc⟩]
  rw [e2]
  have c2 := h.cells.2.2.1
  have c5 := h.cells.2.2.2.2.2.1
  have f5 := h.free 5
  obtain ⟨i0, hi, hz0, hz1, hz2⟩ := info_parts info_rune
  have hown := Lib.hid h.text
  have hbase := h.size
  have hlt := h.lt
  have H := Lib.hid h
  clear h e2
  have fin : ∀ (o : Obj) (w1 : World) (g cap : Nat),
    w1.ownsRow base 21 1 (.slice (some ⟨g, 0, none⟩) (st.text.length + 1) cap) (st.text.length + 1) (runes st.text ++ [.int .i32 c]) →
    (w.alloc o).grownBy w1 (Value.slice tA st.text.length tc).ownBlock → RSK base w ((w1.setCell ⟨b, 5, none⟩ (.slice (some ⟨g, 0, none⟩) (st.text.length + 1) cap)).setCell ⟨b, 2, none⟩ (.int .i64 4)) b { st.more c with state := 4 } := fun o w1 g cap a1 a2 => by
      obtain ⟨q1, q2⟩ := H.out.text_fin c a1 a2
      exact ⟨⟨_, _, _, _, q1.set 2 (.int .i64 4) { st.more c with state := 4 } rfl rfl rfl⟩, q2.setCell (p := ⟨b, 2, none⟩) (Or.inl (Or.inl rfl)) _⟩
  have Fin := Lib.hid fin
  clear fin
  have hd := Lib.hid (digit_t c w hc)
  clear hc
  rcases hs with hs | hs
  all_goals
    rw [hs] at c2
    clear hs
    go_enter Tryd.func51, Tryd.ntmps51
    go_wp2_with (first | (go_at_call 64; refine hd.out.mono ?_; rintro e w' ⟨rfl, rfl⟩) | (at_builtin; refine wpList_append_lies _ rfl (.tmp 47) (.tmp 49) 105 rfl base 21 i0 (.int .i32 0) 1 4 Tryd.underlying105 hi hz0 hz1 hz2 rfl (by decide) (.slice tA st.text.length tc) st.text.length (runes st.text) rfl (by exact hown.out.alloc _) ⟨w.heap.size, 0, none⟩ 1 1 [.int .i32 c] rfl rfl (by exact World.news_of_block (blk_new w _)) (one_rune c) (by decide) (by unfold maxLen; omega) (by omega) (by simp; omega) (w.heap.size + 1) (by simp) ?_; intro g cap w1 hw1 hw2 hw3 hw4; have hb1 := H.out.grown_text hw2; have q5 : w1.cell? ⟨b, 5, none⟩ = some (.slice tA st.text.length tc) := (blk_cell hb1 5).trans rfl; have q2 : w1.cell? ⟨b, 2, none⟩ = some (.int .i64 st.state) := (blk_cell hb1 2).trans rfl; have g5 := blk_free hb1 5; have g2 := blk_free hb1 2; have Hw1 := Lib.hid hw1; have Hw2 := Lib.hid hw2; clear hw1 hw2 hw3 hw4 hb1))
    refine bodyPost_ret (v := .tuple #[]) (by simp [results, Tryd.results51, go_sem]) rfl ?_
    exact ⟨rfl, Fin.out _ _ _ _ Hw1.out Hw2.out⟩

/-- close, then begin -/
theorem close_begin (hG : Glob w) (h : RS base w b st tA tc wA wc) (hn : st.words.length + 1 ≤ 1099511627776) (ht : st.text.length ≤ 1099511627776) (c : Int) :
    Calls Tryd.prog 49 #[.pointer (some ⟨b, 0, none⟩)] w fun e' w1 => e' = .returned (.tuple #[]) ∧ Keeps (fun k => k = b ∨ base ≤ k) w w1 ∧
      Calls Tryd.prog 62 #[.pointer (some ⟨b, 0, none⟩), .int .i32 c] w1 fun e' w2 => e' = .returned (.tuple #[]) ∧ RSK base w w2 b (st.close.begin c) := by
  refine (close_calls Atoi_holds hG h (by omega) ht).mono ?_
  rintro e w1 ⟨rfl, ⟨tA2, tc2, wA2, wc2, h1⟩, hk⟩
  refine ⟨rfl, hk, ?_⟩
  refine (begin_calls h1 c (by have := close_words st; omega)).mono ?_
  rintro e w2 ⟨rfl, h2⟩
  exact ⟨rfl, h2.trans hk⟩

set_option maxRecDepth 100000 in
set_option maxHeartbeats 1000000 in
theorem take_plain (hG : Glob w) (h : RS base w b st tA tc wA wc) (c : Int) (h1 : st.state ≠ 1) (h2 : ¬ (st.state = 2 ∧ (letterB c = true ∨ digitB c = true)))
    (h3 : ¬ ((st.state = 3 ∨ st.state = 4) ∧ digitB c = true)) (h4 : ¬ (st.state = 4 ∧ letterB c = true)) (hn : st.words.length + 1 ≤ 1099511627776) (ht : st.text.length ≤ 1099511627776) :
    Calls Tryd.prog 51 #[.pointer (some ⟨b, 0, none⟩), .int .i32 c] w fun e' w' => e' = .returned (.tuple #[]) ∧ RSK base w w' b (st.take c) := by
  have e2 : st.take c = st.close.begin c := by
    unfold Rd.take
    rw [if_neg h1, if_neg h2, if_neg h3, if_neg h4]
  rw [e2]
  have c2 := h.cells.2.2.1
  have Hc := Lib.hid (close_begin hG h hn ht c)
  have b1 : (st.state == 1) = false := by simpa using h1
  clear h e2 hG
  by_cases s2 : st.state = 2
  · have hl := Lib.hid (Letter_f c w (by cases q : letterB c; rfl; exact absurd ⟨s2, Or.inl q⟩ h2))
    have hd := Lib.hid (digit_f c w (by cases q : digitB c; rfl; exact absurd ⟨s2, Or.inr q⟩ h2))
    rw [s2] at c2
    clear h1 h2 h3 h4 s2 b1
    go_enter Tryd.func51, Tryd.ntmps51
    go_wp2_with (first | (go_at_call 63; refine hl.out.mono ?_; rintro e w' ⟨rfl, rfl⟩) | (go_at_call 64; refine hd.out.mono ?_; rintro e w' ⟨rfl, rfl⟩) | (go_at_call 49; refine Hc.out.mono ?_; rintro e w1 ⟨rfl, hk, h20⟩; have c2' : w1.cell? ⟨b, 2, none⟩ = w1.cell? ⟨b, 2, none⟩ := rfl; have H2 := Lib.hid h20; clear h20 hk c2') | (go_at_call 62; refine H2.out.mono ?_; rintro e w2 ⟨rfl, h50⟩; have h5 := Lib.hid h50; clear h50))
    go_end0
    exact ⟨rfl, h5.out⟩
  · have b2 : (st.state == 2) = false := by simpa using s2
    by_cases s3 : st.state = 3
    · have hd := Lib.hid (digit_f c w (by cases q : digitB c; rfl; exact absurd ⟨Or.inl s3, q⟩ h3))
      rw [s3] at c2
      clear h1 h2 h3 h4 s2 b1 b2 s3
      go_enter Tryd.func51, Tryd.ntmps51
      go_wp2_with (first | (go_at_call 64; refine hd.out.mono ?_; rintro e w' ⟨rfl, rfl⟩) | (go_at_call 49; refine Hc.out.mono ?_; rintro e w1 ⟨rfl, hk, h20⟩; have H2 := Lib.hid h20; clear h20 hk) | (go_at_call 62; refine H2.out.mono ?_; rintro e w2 ⟨rfl, h50⟩; have h5 := Lib.hid h50; clear h50))
      go_end0
      exact ⟨rfl, h5.out⟩
    · have b3 : (st.state == 3) = false := by simpa using s3
      by_cases s4 : st.state = 4
      · have hl := Lib.hid (Letter_f c w (by cases q : letterB c; rfl; exact absurd ⟨s4, q⟩ h4))
        have hd := Lib.hid (digit_f c w (by cases q : digitB c; rfl; exact absurd ⟨Or.inr s4, q⟩ h3))
        rw [s4] at c2
        clear h1 h2 h3 h4 s2 b1 b2 s3 b3 s4
        go_enter Tryd.func51, Tryd.ntmps51
        go_wp2_with (first | (go_at_call 63; refine hl.out.mono ?_; rintro e w' ⟨rfl, rfl⟩) | (go_at_call 64; refine hd.out.mono ?_; rintro e w' ⟨rfl, rfl⟩) | (go_at_call 49; refine Hc.out.mono ?_; rintro e w1 ⟨rfl, hk, h20⟩; have H2 := Lib.hid h20; clear h20 hk) | (go_at_call 62; refine H2.out.mono ?_; rintro e w2 ⟨rfl, h50⟩; have h5 := Lib.hid h50; clear h50))
        go_end0
        exact ⟨rfl, h5.out⟩
      · have b4 : (st.state == 4) = false := by simpa using s4
        clear h1 h2 h3 h4 s2 s3 s4
        go_enter Tryd.func51, Tryd.ntmps51
        go_wp2_with (first | (go_at_call 49; refine Hc.out.mono ?_; rintro e w1 ⟨rfl, hk, h20⟩; have H2 := Lib.hid h20; clear h20 hk) | (go_at_call 62; refine H2.out.mono ?_; rintro e w2 ⟨rfl, h50⟩; have h5 := Lib.hid h50; clear h50))
        go_end0
        exact ⟨rfl, h5.out⟩

/-- a letter right behind a number: close, fail, close, begin -/
theorem odd_chain (hG : Glob w) (hb : 4 ≤ b) (hbase : 4 ≤ base) (h : RS base w b st tA tc wA wc) (hn : st.words.length + 2 ≤ 1099511627776) (ht : st.text.length ≤ 1099511627776) (c : Int) (l cc : Int) :
    Calls Tryd.prog 49 #[.pointer (some ⟨b, 0, none⟩)] w fun e' w1 => e' = .returned (.tuple #[]) ∧ (w1.cell? ⟨b, 0, none⟩ = some (.int .i64 st.close.line) ∧ w1.cell? ⟨b, 1, none⟩ = some (.int .i64 st.close.col)) ∧
      Calls Tryd.prog 50 #[.pointer (some ⟨b, 0, none⟩), .int .i64 6, .agg #[.int .i64 l, .int .i64 cc]] w1 fun e' w2 => e' = .returned (.tuple #[]) ∧
        Calls Tryd.prog 49 #[.pointer (some ⟨b, 0, none⟩)] w2 fun e' w3 => e' = .returned (.tuple #[]) ∧
          Calls Tryd.prog 62 #[.pointer (some ⟨b, 0, none⟩), .int .i32 c] w3 fun e' w4 => e' = .returned (.tuple #[]) ∧ RSK base w w4 b (((st.close.fail 6 l cc).close).begin c) := by
  refine (close_calls Atoi_holds hG h (by omega) ht).mono ?_
  rintro e w1 ⟨rfl, ⟨tA2, tc2, wA2, wc2, h1⟩, hk⟩
  refine ⟨rfl, ⟨h1.cells.1, h1.cells.2.1⟩, ?_⟩
  refine (fail_word h1 6 l cc).mono ?_
  rintro e w2 ⟨rfl, h2, hk2⟩
  refine ⟨rfl, ?_⟩
  have hc := close_words st
  have hw : (st.close.fail 6 l cc).words = st.close.words := fail_words _ _ _ _
  have ht2 : (st.close.fail 6 l cc).text = [] := by unfold Rd.fail; split <;> rfl
  refine (close_begin (glob_rd hG (hk.trans hk2) hb hbase) h2 (by rw [hw]; omega) (by rw [ht2]; simp) c).mono ?_
  rintro e w3 ⟨rfl, hk3, h3⟩
  refine ⟨rfl, ?_⟩
  refine h3.mono ?_
  rintro e w4 ⟨rfl, h4⟩
  exact ⟨rfl, h4.trans (hk.trans hk2)⟩

theorem close_line (st : Rd) : st.close.line = st.line ∧ st.close.col = st.col := by
  have hf : ∀ (s : Rd) e l c, (s.fail e l c).line = s.line ∧ (s.fail e l c).col = s.col := by
    intro s e l c
    unfold Rd.fail
    split <;> exact ⟨rfl, rfl⟩
  show st.close1.line = st.line ∧ st.close1.col = st.col
  unfold Rd.close1
  split
  · split
    · exact hf _ _ _ _
    · exact ⟨rfl, rfl⟩
  · split
    · split
      · exact hf _ _ _ _
      · exact ⟨rfl, rfl⟩
    · split
      · exact hf _ _ _ _
      · exact ⟨rfl, rfl⟩

set_option maxRecDepth 100000 in
set_option maxHeartbeats 1000000 in
theorem take_odd (hG : Glob w) (hb : 4 ≤ b) (hbase : 4 ≤ base) (h : RS base w b st tA tc wA wc) (c : Int) (s4 : st.state = 4) (h3 : digitB c = false) (h4 : letterB c = true)
    (hn : st.words.length + 2 ≤ 1099511627776) (ht : st.text.length ≤ 1099511627776) :
    Calls Tryd.prog 51 #[.pointer (some ⟨b, 0, none⟩), .int .i32 c] w fun e' w' => e' = .returned (.tuple #[]) ∧ RSK base w w' b (st.take c) := by
  have e2 : st.take c = ((st.close.fail 6 st.line st.col).close).begin c := by
    unfold Rd.take
    rw [if_neg (by rw [s4]; decide), if_neg (by rintro ⟨q, _⟩; rw [s4] at q; exact absurd q (by decide)), if_neg (by rintro ⟨_, q⟩; rw [h3] at q; exact absurd q (by decide)), if_pos ⟨s4, h4⟩]
  rw [e2]
  have c2 := h.cells.2.2.1
  obtain ⟨cl, cc⟩ := close_line st
  have Hc := odd_chain hG hb hbase h hn ht c st.line st.col
  rw [cl, cc] at Hc
  have HC := Lib.hid Hc
  have hl := Lib.hid (Letter_t c w h4)
  have hd := Lib.hid (digit_f c w h3)
  rw [s4] at c2
  clear h e2 hG Hc cl cc s4 h3 h4
  go_enter Tryd.func51, Tryd.ntmps51
  go_wp2_with (first | (go_at_call 63; refine hl.out.mono ?_; rintro e w' ⟨rfl, rfl⟩) | (go_at_call 64; refine hd.out.mono ?_; rintro e w' ⟨rfl, rfl⟩) | (go_at_call 49; refine H3.out.mono ?_; rintro e w3 ⟨rfl, h30⟩; have H4 := Lib.hid h30; clear h30) | (go_at_call 49; refine HC.out.mono ?_; rintro e w1 ⟨rfl, ⟨d0, d1⟩, h20⟩; have H2 := Lib.hid h20; clear h20) | (go_at_call 50; refine H2.out.mono ?_; rintro e w2 ⟨rfl, h20⟩; have H3 := Lib.hid h20; clear h20) | (go_at_call 62; refine H4.out.mono ?_; rintro e w4 ⟨rfl, h50⟩; have h5 := Lib.hid h50; clear h50))
  go_end0
  exact ⟨rfl, h5.out⟩

theorem take_calls (hG : Glob w) (hb : 4 ≤ b) (hbase : 4 ≤ base) (h : RS base w b st tA tc wA wc) (c : Int)
    (hn : st.words.length + 2 ≤ 1099511627776) (ht : st.text.length ≤ 1099511627776) :
    Calls Tryd.prog 51 #[.pointer (some ⟨b, 0, none⟩), .int .i32 c] w fun e' w' => e' = .returned (.tuple #[]) ∧ RSK base w w' b (st.take c) := by
  by_cases h1 : st.state = 1
  · exact take_remark h h1 c (by omega)
  · by_cases h2 : st.state = 2 ∧ (letterB c = true ∨ digitB c = true)
    · exact take_more h h2.1 c h2.2 ht
    · by_cases h3 : (st.state = 3 ∨ st.state = 4) ∧ digitB c = true
      · exact take_digit h h3.1 c h3.2 ht
      · by_cases h4 : st.state = 4 ∧ letterB c = true
        · exact take_odd hG hb hbase h c h4.1 (by cases q : digitB c; rfl; exact absurd ⟨Or.inr h4.1, q⟩ h3) h4.2 hn ht
        · exact take_plain hG h c h1 h2 h3 h4 (by omega) ht

end
end Go.Proofs.YtfpjdgobannneaaDoor

/-
  What word.Read computes, as Lean functions, and the bounds that its loop keeps.
-/
namespace Go.Proofs.YtfpjdgobannneaaDoor
open Go Go.RowKit

def badRune (s : ByteArray) (k : Nat) (r : Int) : Bool := r == 65533 && !(Lib.hasPrefix (s.extract k s.size).data.toList [239, 191, 189])

def Rd.look (st : Rd) (bad : Bool) : Rd := if bad = true then st.close.fail 6 st.line st.col else st

def Rd.go (st : Rd) (r : Int) : Rd := (st.take r).over r

def rdLoop (s : ByteArray) : Nat → Nat → Rd → Rd
  | 0, _, st => st
  | f + 1, k, st =>
    if k < s.size then
      (if (st.look (badRune s k (Utf8.decode s k).1)).wrong = 0 then
        rdLoop s f (k + (Utf8.decode s k).2) ((st.look (badRune s k (Utf8.decode s k).1)).go (Utf8.decode s k).1)
      else st.look (badRune s k (Utf8.decode s k).1))
    else st

def Rd.init : Rd := ⟨1, 1, 0, 0, 0, [], [], 0, 0, 0⟩

def rdAll (s : ByteArray) : Rd := (rdLoop s (s.size + 1) 0 Rd.init).close

/-- what word.Read tells -/
def wordRead (s : ByteArray) : List Wd × Int × Int × Int :=
  if (rdAll s).wrong = 0 then ((rdAll s).words, 0, 0, 0) else ([], (rdAll s).al, (rdAll s).ac, (rdAll s).wrong)

theorem decode_pos (s : ByteArray) (k : Nat) : 1 ≤ (Utf8.decode s k).2 := by
  unfold Utf8.decode
  simp only
  repeat' split
  all_goals simp

/-- what the loop keeps: k bytes are read -/
structure Rd.Fits (st : Rd) (k : Nat) : Prop where
  words : st.words.length ≤ 2 * k
  text : st.text.length ≤ k
  line0 : 0 ≤ st.line
  line1 : st.line ≤ k + 1
  col0 : 0 ≤ st.col
  col1 : st.col ≤ k + 1

theorem fail_fields (s : Rd) (e l c : Int) : (s.fail e l c).line = s.line ∧ (s.fail e l c).col = s.col ∧ (s.fail e l c).words = s.words ∧ (s.fail e l c).text = s.text := by
  unfold Rd.fail
  split <;> exact ⟨rfl, rfl, rfl, rfl⟩

theorem begin_fields (st : Rd) (c : Int) : (st.begin c).line = st.line ∧ (st.begin c).col = st.col ∧ (st.begin c).words.length ≤ st.words.length + 1 ∧ (st.begin c).text = [c] := by
  unfold Rd.begin
  repeat' split
  all_goals first
    | (refine ⟨rfl, rfl, ?_, rfl⟩; simp [Rd.fresh, Rd.put]; done)
    | (obtain ⟨h1, h2, h3, h4⟩ := fail_fields (st.fresh c) 6 st.line st.col; rw [h1, h2, h3, h4]; exact ⟨rfl, rfl, Nat.le_succ _, rfl⟩)

theorem take_fields (st : Rd) (c : Int) : (st.take c).line = st.line ∧ (st.take c).col = st.col ∧ (st.take c).words.length ≤ st.words.length + 2 ∧ (st.take c).text.length ≤ st.text.length + 1 := by
  unfold Rd.take
  split
  · split
    · obtain ⟨h1, h2, h3, h4⟩ := begin_fields { st with state := 0 } 10
      rw [h1, h2, h4]
      exact ⟨rfl, rfl, Nat.le_succ_of_le h3, by simp⟩
    · exact ⟨rfl, rfl, by omega, by omega⟩
  · split
    · exact ⟨rfl, rfl, by simp [Rd.more], by simp [Rd.more]⟩
    · split
      · exact ⟨rfl, rfl, by simp [Rd.more], by simp [Rd.more]⟩
      · split
        · obtain ⟨h1, h2, h3, h4⟩ := begin_fields ((st.close.fail 6 st.line st.col).close) c
          obtain ⟨c1, c2⟩ := close_line (st.close.fail 6 st.line st.col)
          obtain ⟨d1, d2⟩ := close_line st
          obtain ⟨f1, f2, f3, f4⟩ := fail_fields st.close 6 st.line st.col
          have w1 := close_words st
          have hz : (st.close.fail 6 st.line st.col).state = 0 := by unfold Rd.fail; split <;> rfl
          have w2 : (st.close.fail 6 st.line st.col).close.words = (st.close.fail 6 st.line st.col).words := by
            show (st.close.fail 6 st.line st.col).close1.words = _
            unfold Rd.close1
            rw [hz]
            rfl
          rw [h1, h2, h4, c1, c2, f1, f2, d1, d2]
          rw [w2, f3] at h3
          exact ⟨rfl, rfl, by omega, by simp⟩
        · obtain ⟨h1, h2, h3, h4⟩ := begin_fields st.close c
          obtain ⟨d1, d2⟩ := close_line st
          have w1 := close_words st
          rw [h1, h2, h4, d1, d2]
          exact ⟨rfl, rfl, by omega, by simp⟩

theorem go_fits {st : Rd} {k n : Nat} (h : st.Fits k) (hn : 1 ≤ n) (r : Int) : (st.go r).Fits (k + n) := by
  obtain ⟨h1, h2, h3, h4⟩ := take_fields st r
  obtain ⟨w, t, l0, l1, c0, c1⟩ := h
  unfold Rd.go Rd.over
  split
  · refine ⟨?_, ?_, ?_, ?_, ?_, ?_⟩
    · show (st.take r).words.length ≤ _
      omega
    · show (st.take r).text.length ≤ _
      omega
    · show 0 ≤ (st.take r).line + 1
      omega
    · show (st.take r).line + 1 ≤ _
      omega
    · show (0 : Int) ≤ 1
      omega
    · show (1 : Int) ≤ _
      omega
  · refine ⟨?_, ?_, ?_, ?_, ?_, ?_⟩
    · show (st.take r).words.length ≤ _
      omega
    · show (st.take r).text.length ≤ _
      omega
    · show 0 ≤ (st.take r).line
      omega
    · show (st.take r).line ≤ _
      omega
    · show 0 ≤ (st.take r).col + 1
      omega
    · show (st.take r).col + 1 ≤ _
      omega

theorem init_fits : Rd.init.Fits 0 := ⟨by simp [Rd.init], by simp [Rd.init], by simp [Rd.init], by simp [Rd.init], by simp [Rd.init], by simp [Rd.init]⟩

end Go.Proofs.YtfpjdgobannneaaDoor

/-
  The contract of word.Read.
-/
namespace Go.Proofs.YtfpjdgobannneaaDoor
open Go Go.RowKit

theorem own_mono {w : World} {base base' : Nat} {e : TypeId} {size : Nat} {v : Value} {n : Nat} {xs : List Value} (h : w.ownsRow base e size v n xs) (hb : base' ≤ base) : w.ownsRow base' e size v n xs := by
  refine ⟨h.1, ?_⟩
  rcases h.2 with h2 | ⟨g, cap, cur, hv, hg, r⟩
  · exact Or.inl h2
  · exact Or.inr ⟨g, cap, cur, hv, Nat.le_trans hb hg, r⟩

theorem own_iterAt {w : World} {base : Nat} {e : TypeId} {size : Nat} {v : Value} {n : Nat} {xs : List Value} (h : w.ownsRow base e size v n xs) {k : Nat} {s : ByteArray} {p : Nat} (hk : w.heap[k]? = some (.stringIter s p)) (p' : Nat) : (w.iterAt k s p').ownsRow base e size v n xs := by
  refine ⟨h.1, ?_⟩
  rcases h.2 with h2 | ⟨g, cap, cur, hv, hg, hh, r⟩
  · exact Or.inl h2
  · refine Or.inr ⟨g, cap, cur, hv, hg, ?_, r⟩
    rw [Lib.iterAt_other _ _ _ _ _ (by
      intro e
      subst e
      rw [hk] at hh
      cases hh)]
    exact hh

section
variable {base b : Nat} {st : Rd} {w : World} {tA wA : Option Addr} {tc wc : Nat}

theorem RS.iterAt (h : RS base w b st tA tc wA wc) {k : Nat} {s : ByteArray} {p : Nat} (hk : w.heap[k]? = some (.stringIter s p)) (p' : Nat) : RS base (w.iterAt k s p') b st tA tc wA wc := by
  refine ⟨?_, own_iterAt h.text hk p', own_iterAt h.words hk p', by rw [Lib.iterAt_size]; exact h.size⟩
  rw [Lib.iterAt_other _ _ _ _ _ (by
    intro e
    subst e
    have := h.blk
    rw [hk] at this
    cases this)]
  exact h.blk

theorem Keeps.iterAt {S : Nat → Prop} {a w : World} (h : Keeps S a w) {k : Nat} (hk : S k ∨ a.heap.size ≤ k) (s : ByteArray) (p : Nat) : Keeps S a (w.iterAt k s p) :=
  ⟨h.os, h.tape, h.output, by rw [Lib.iterAt_size]; exact h.size, fun i hi hs => by
    rw [Lib.iterAt_other _ _ _ _ _ (by
      intro e
      subst e
      rcases hk with hk | hk
      · exact hs hk
      · omega)]
    exact h.block i hi hs⟩

/-- what the loop's relation holds of a world: the iterator, the reader, what stays -/
structure RdAt (s : ByteArray) (w w' : World) (k : Nat) (st : Rd) : Prop where
  iter : w'.heap[w.heap.size + 1]? = some (.stringIter s k)
  rs : ∃ tA tc wA wc, RS (w.heap.size + 2) w' w.heap.size st tA tc wA wc
  keep : Keeps (fun _ => False) w w'
  glob : Glob w'
  fits : st.Fits k

theorem RdAt.step {s : ByteArray} {w wr w' : World} {k : Nat} {st st' : Rd} (h : RdAt s w wr k st) {p : Nat} (hk : RSK (w.heap.size + 2) (wr.iterAt (w.heap.size + 1) s p) w' w.heap.size st') (hf : st'.Fits p) (h8 : 4 ≤ w.heap.size) : RdAt s w w' p st' := by
  obtain ⟨h1, h2, h3, h4, h5⟩ := h
  have hsz := lt_of_heap h1
  refine ⟨hk.2.heap (Lib.iterAt_heap _ _ _ _ _ h1) (by omega), hk.1, ?_, ?_, hf⟩
  · refine (h3.iterAt (k := w.heap.size + 1) (Or.inr (by omega)) s p).trans' hk.2 ?_
    intro i hi hc
    have := h3.size
    omega
  · refine Glob.keeps (S := fun k => k = w.heap.size ∨ w.heap.size + 2 ≤ k) (h4.keeps (S := fun k => 4 ≤ k) ((Keeps.refl _ _).iterAt (Or.inl (by omega)) s p) (by omega)) hk.2 (by omega)

end

theorem look_bad (st : Rd) : (st.look true).wrong ≠ 0 := by
  show (st.close.fail 6 st.line st.col).wrong ≠ 0
  unfold Rd.fail
  split
  · show (6 : Int) ≠ 0
    decide
  · assumption

end Go.Proofs.YtfpjdgobannneaaDoor

/-
  The walk of word.Read.
-/
namespace Go.Proofs.YtfpjdgobannneaaDoor
open Go Go.RowKit

/-- what a call of word.Read leaves -/
def ReadPost (s : ByteArray) (w : World) (e : Ending) (w' : World) : Prop :=
  ∃ wA wc, e = .returned (.tuple #[.slice wA (wordRead s).1.length wc, .int .i64 (wordRead s).2.1, .int .i64 (wordRead s).2.2.1, .int .i64 (wordRead s).2.2.2]) ∧
    w'.ownsRow w.heap.size 87 5 (.slice wA (wordRead s).1.length wc) (wordRead s).1.length (wcells (wordRead s).1) ∧ Keeps (fun _ => False) w w'

theorem readPost_ok {s : ByteArray} {w w1 w' : World} {tA wA : Option Addr} {tc wc : Nat} (h : (rdAll s).wrong = 0) (hr : RS (w.heap.size + 2) w' w.heap.size (rdAll s) tA tc wA wc)
    (hk : Keeps (fun _ => False) w w1) (hk2 : Keeps (fun k => k = w.heap.size ∨ w.heap.size + 2 ≤ k) w1 w') :
    ReadPost s w (.returned (.tuple #[.slice wA (rdAll s).words.length wc, .int .i64 0, .int .i64 0, .int .i64 0])) w' := by
  have e : wordRead s = ((rdAll s).words, 0, 0, 0) := by unfold wordRead; rw [if_pos h]
  refine ⟨wA, wc, by rw [e], ?_, hk.trans' hk2 (by omega)⟩
  rw [e]
  exact own_mono hr.words (by omega)

theorem readPost_bad {s : ByteArray} {w w1 w' : World} (h : (rdAll s).wrong ≠ 0) (hk : Keeps (fun _ => False) w w1) (hk2 : Keeps (fun k => k = w.heap.size ∨ w.heap.size + 2 ≤ k) w1 w') :
    ReadPost s w (.returned (.tuple #[.slice none 0 0, .int .i64 (rdAll s).al, .int .i64 (rdAll s).ac, .int .i64 (rdAll s).wrong])) w' := by
  have e : wordRead s = ([], (rdAll s).al, (rdAll s).ac, (rdAll s).wrong) := by unfold wordRead; rw [if_neg h]
  refine ⟨none, 0, by rw [e]; rfl, ?_, hk.trans' hk2 (by omega)⟩
  rw [e]
  exact World.ownsRow_nil _ _ _ _

theorem decode_four (s : ByteArray) (k : Nat) : (Utf8.decode s k).2 ≤ 4 := by
  unfold Utf8.decode
  simp only
  repeat' split
  all_goals simp

theorem rdLoop_go {s : ByteArray} {f k : Nat} {st : Rd} (hk : k < s.size) (hw : (st.look (badRune s k (Utf8.decode s k).1)).wrong = 0) :
    rdLoop s (f + 1) k st = rdLoop s f (k + (Utf8.decode s k).2) ((st.look (badRune s k (Utf8.decode s k).1)).go (Utf8.decode s k).1) := by
  rw [rdLoop, if_pos hk, if_pos hw]

theorem rdLoop_stop {s : ByteArray} {f k : Nat} {st : Rd} (hk : k < s.size) (hw : (st.look (badRune s k (Utf8.decode s k).1)).wrong ≠ 0) :
    rdLoop s (f + 1) k st = st.look (badRune s k (Utf8.decode s k).1) := by
  rw [rdLoop, if_pos hk, if_neg hw]

theorem rdLoop_end {s : ByteArray} {f k : Nat} {st : Rd} (hk : ¬ k < s.size) : rdLoop s f k st = st := by
  cases f with
  | zero => rfl
  | succ f => rw [rdLoop, if_neg hk]

/-- the loop's relation, without the slots -/
def RdRel (s : ByteArray) (w wr : World) : Prop := ∃ k f st, k ≤ s.size + 4 ∧ s.size < k + f ∧ RdAt s w wr k st ∧ rdLoop s (s.size + 1) 0 Rd.init = rdLoop s f k st

theorem rdRel_start (s : ByteArray) (w : World) (hG : Glob w) :
    RdRel s w ((w.alloc (.cells #[.int .i64 1, .int .i64 1, .int .i64 0, .int .i64 0, .int .i64 0, .slice none 0 0, .bool false, .slice none 0 0, .int .i64 0, .int .i64 0, .int .i64 0] 107)).iter s 0) := by
  refine ⟨0, s.size + 1, Rd.init, by omega, by omega, ⟨?_, ⟨none, 0, none, 0, ?_⟩, ?_, ?_, init_fits⟩, rfl⟩
  · have := World.iter_heap (w.alloc (.cells #[.int .i64 1, .int .i64 1, .int .i64 0, .int .i64 0, .int .i64 0, .slice none 0 0, .bool false, .slice none 0 0, .int .i64 0, .int .i64 0, .int .i64 0] 107)) s 0
    simpa using this
  · refine ⟨blk_alloc (blk_new w _) _, World.ownsRow_nil _ _ _ _, World.ownsRow_nil _ _ _ _, ?_⟩
    simp [World.iter]
  · exact ((Keeps.refl _ _).alloc _).alloc _
  · exact hG.keeps (S := fun _ => False) (((Keeps.refl _ _).alloc _).alloc _) (by simp)

theorem hasPrefix_calls (s p : ByteArray) (w : World) : Calls Tryd.prog 48 #[.string s, .string p] w fun e w' => e = .returned (.bool (Lib.hasPrefix s.data.toList p.data.toList)) ∧ w = w' := by
  refine (Tryd.strings_HasPrefix s p w).mono ?_
  rintro e w' ⟨h1, h2⟩
  exact ⟨h1, h2.symm⟩

/-- close, then fail where the reader stands -/
theorem look_chain {base b : Nat} {st : Rd} {w : World} {tA wA : Option Addr} {tc wc : Nat} (hG : Glob w) (hb : 4 ≤ b) (hbase : 4 ≤ base) (h : RS base w b st tA tc wA wc) (hn : st.words.length + 2 ≤ 1099511627776) (ht : st.text.length ≤ 1099511627776) :
    Calls Tryd.prog 49 #[.pointer (some ⟨b, 0, none⟩)] w fun e' w1 => e' = .returned (.tuple #[]) ∧ (w1.cell? ⟨b, 0, none⟩ = some (.int .i64 st.line) ∧ w1.cell? ⟨b, 1, none⟩ = some (.int .i64 st.col)) ∧
      Calls Tryd.prog 50 #[.pointer (some ⟨b, 0, none⟩), .int .i64 6, .agg #[.int .i64 st.line, .int .i64 st.col]] w1 fun e' w2 => e' = .returned (.tuple #[]) ∧ RSK base w w2 b (st.look true) ∧ Glob w2 := by
  refine (close_calls Atoi_holds hG h (by omega) ht).mono ?_
  rintro e w1 ⟨rfl, ⟨tA2, tc2, wA2, wc2, h1⟩, hk⟩
  obtain ⟨c1, c2⟩ := close_line st
  have q0 := h1.cells.1
  have q1 := h1.cells.2.1
  rw [c1] at q0
  rw [c2] at q1
  refine ⟨rfl, ⟨q0, q1⟩, ?_⟩
  refine (fail_word h1 6 st.line st.col).mono ?_
  rintro e w2 ⟨rfl, h2, hk2⟩
  exact ⟨rfl, ⟨⟨_, _, _, _, h2⟩, hk.trans hk2⟩, glob_rd hG (hk.trans hk2) hb hbase⟩

set_option maxRecDepth 100000 in
set_option maxHeartbeats 4000000 in
theorem read_calls (s : ByteArray) (w : World) (hs : s.size ≤ 1000000000) (hG : Glob w) (h8 : 4 ≤ w.heap.size) :
    Calls Tryd.prog 30 #[.string s] w (ReadPost s w) := by
  have Hst := Lib.hid (rdRel_start s w hG)
  have H8 := Lib.hid h8
  clear hG h8
  go_enter Tryd.func30, Tryd.ntmps30
  go_wp2
  go_loopw [7] (fun _ wr => Hid (RdRel s w wr)) (fun _ wr => s.size - wr.iterPos (w.heap.size + 1))
  case atStart => exact Hst
  case round =>
    obtain ⟨k, f, st, hk4, hf, hat, heq⟩ := hrel.out
    clear hrel Hst
    obtain ⟨tA, tc, wA, wc, hrs⟩ := hat.rs
    have hip := Lib.hid (iterPos_of hat.iter)
    have HA := Lib.hid hat
    have hwf := hat.fits
    obtain ⟨fw, ft, fl0, fl1, fc0, fc1⟩ := hwf
    by_cases hk : k < s.size
    · have hnx := fun ty => Lib.run_next_any_at (P := Tryd.prog) wr (w.heap.size + 1) s k ty hat.iter hk
      have hpos := decode_pos s k
      have hn4 := decode_four s k
      have hr2 := Lib.hid (hrs.iterAt hat.iter (k + (Utf8.decode s k).2))
      have hg2 := Lib.hid (hat.glob.keeps (S := fun k => 4 ≤ k) ((Keeps.refl _ _).iterAt (k := w.heap.size + 1) (Or.inl (by have := H8.out; omega)) s (k + (Utf8.decode s k).2)) (by omega))
      have hk2 := Lib.hid (hat.keep.iterAt (k := w.heap.size + 1) (Or.inr (by omega)) s (k + (Utf8.decode s k).2))
      have hstep := Lib.hid (fun w' st' (q : RSK (w.heap.size + 2) (wr.iterAt (w.heap.size + 1) s (k + (Utf8.decode s k).2)) w' w.heap.size st') (hf : st'.Fits (k + (Utf8.decode s k).2)) => hat.step q hf H8.out)
      have hgo := Lib.hid (fun (h : (st.look (badRune s k (Utf8.decode s k).1)).wrong = 0) => heq.trans (by obtain ⟨f', rfl⟩ : ∃ f', f = f' + 1 := ⟨f - 1, by omega⟩; exact rdLoop_go hk h : _ = rdLoop s (f - 1) (k + (Utf8.decode s k).2) ((st.look (badRune s k (Utf8.decode s k).1)).go (Utf8.decode s k).1)))
      have hstop := Lib.hid (fun (h : (st.look (badRune s k (Utf8.decode s k).1)).wrong ≠ 0) => heq.trans (by obtain ⟨f', rfl⟩ : ∃ f', f = f' + 1 := ⟨f - 1, by omega⟩; exact rdLoop_stop hk h : _ = st.look (badRune s k (Utf8.decode s k).1)))
      clear hrs hat heq
      generalize hW : wr.iterAt (w.heap.size + 1) s (k + (Utf8.decode s k).2) = W at *
      generalize (Utf8.decode s k).2 = n at *
      generalize (((Utf8.decode s k).1 : Nat) : Int) = r at *
      clear hW
      cases hbad : badRune s k r with
      | true =>
        have hb2 : (r == 65533) = true ∧ (!(Lib.hasPrefix (s.extract k s.size).data.toList [239, 191, 189])) = true := Bool.and_eq_true_iff.1 hbad
        obtain ⟨b0, b00⟩ := hb2
        have hpre := Lib.hid (hasPrefix_calls (s.extract k s.size) ⟨#[239, 191, 189]⟩ W)
        have b000 : Lib.hasPrefix (s.extract k s.size).data.toList [239, 191, 189] = false := by simpa using b00
        have e0 : (⟨#[239, 191, 189]⟩ : ByteArray).data.toList = [239, 191, 189] := rfl
        rw [e0, b000] at hpre
        have hch := Lib.hid (look_chain hg2.out H8.out (Nat.le_trans H8.out (Nat.le_add_right _ 2)) hr2.out (by omega) (by omega))
        have b1 : ((st.look true).wrong != 0) = true := by simpa using look_bad st
        have HE := Lib.hid (show rdAll s = (st.look true).close from by unfold rdAll; rw [hstop.out (by rw [hbad]; exact look_bad st), hbad])
        have hnf := Lib.hid (show (st.look true).words.length ≤ 1099511627776 from by
          have h1 := close_words st
          have h2 : (st.look true).words = st.close.words := fail_words _ _ _ _
          rw [h2]; omega)
        have htf := Lib.hid (show (st.look true).text.length ≤ 1099511627776 from by
          have h2 : (st.look true).text = [] := (fail_fields _ _ _ _).2.2.2
          rw [h2]; simp)
        clear hgo hstop hbad b00 b000 e0
        have hks : k ≤ s.size := Nat.le_of_lt hk
        by_cases hfin : (rdAll s).wrong = 0
        · have b8 : ((rdAll s).wrong != 0) = false := by simpa using hfin
          have HF := Lib.hid hfin
          clear hfin
          go_wp2_with (first | (go_at_call 48; refine hpre.out.mono ?_; rintro e w' ⟨rfl, rfl⟩) | (go_at_call 49; refine hch.out.mono ?_; rintro e w1 ⟨rfl, ⟨q0, q1⟩, h10⟩; have H1 := Lib.hid h10; clear h10 hch) | (go_at_call 50; refine H1.out.mono ?_; rintro e w2 ⟨rfl, ⟨⟨tA2, tc2, wA2, wc2, h20⟩, k20⟩, g20⟩; have q8 := h20.cells.2.2.2.2.2.2.2.1; have HRf := Lib.hid h20; have HGf := Lib.hid g20; have HKf := Lib.hid (hk2.out.trans' k20 (by omega)); clear h20 k20 g20 H1)| (go_at_call 49; refine (close_calls Atoi_holds HGf.out HRf.out hnf.out htf.out).mono ?_; rintro e w9 ⟨rfl, ⟨tA9, tc9, wA9, wc9, h9⟩, k90⟩; rw [← HE.out] at h9; have c7 := h9.cells.2.2.2.2.2.2.1; have c8 := h9.cells.2.2.2.2.2.2.2.1; have c9 := h9.cells.2.2.2.2.2.2.2.2.1; have c10 := h9.cells.2.2.2.2.2.2.2.2.2; have H9 := Lib.hid h9; have K9 := Lib.hid k90; clear h9 k90))
          exact bodyPost_ret (v := .tuple #[.slice wA9 (rdAll s).words.length wc9, .int .i64 0, .int .i64 0, .int .i64 0]) (by simp [results, Tryd.results30, go_sem]) rfl (readPost_ok HF.out H9.out HKf.out K9.out)
        · have b8 : ((rdAll s).wrong != 0) = true := by simpa using hfin
          have HF := Lib.hid hfin
          clear hfin
          go_wp2_with (first | (go_at_call 48; refine hpre.out.mono ?_; rintro e w' ⟨rfl, rfl⟩) | (go_at_call 49; refine hch.out.mono ?_; rintro e w1 ⟨rfl, ⟨q0, q1⟩, h10⟩; have H1 := Lib.hid h10; clear h10 hch) | (go_at_call 50; refine H1.out.mono ?_; rintro e w2 ⟨rfl, ⟨⟨tA2, tc2, wA2, wc2, h20⟩, k20⟩, g20⟩; have q8 := h20.cells.2.2.2.2.2.2.2.1; have HRf := Lib.hid h20; have HGf := Lib.hid g20; have HKf := Lib.hid (hk2.out.trans' k20 (by omega)); clear h20 k20 g20 H1)| (go_at_call 49; refine (close_calls Atoi_holds HGf.out HRf.out hnf.out htf.out).mono ?_; rintro e w9 ⟨rfl, ⟨tA9, tc9, wA9, wc9, h9⟩, k90⟩; rw [← HE.out] at h9; have c7 := h9.cells.2.2.2.2.2.2.1; have c8 := h9.cells.2.2.2.2.2.2.2.1; have c9 := h9.cells.2.2.2.2.2.2.2.2.1; have c10 := h9.cells.2.2.2.2.2.2.2.2.2; have H9 := Lib.hid h9; have K9 := Lib.hid k90; clear h9 k90))
          go_quiet (fail)
          go_wp2
          exact bodyPost_ret (v := .tuple #[.slice none 0 0, .int .i64 (rdAll s).al, .int .i64 (rdAll s).ac, .int .i64 (rdAll s).wrong]) (by simp [results, Tryd.results30, go_sem]) rfl (readPost_bad HF.out HKf.out (K9.out.drewN _))
      | false =>
        by_cases hr : r = 65533
        · have b0 : (r == 65533) = true := by simpa using hr
          have hpre := Lib.hid (hasPrefix_calls (s.extract k s.size) ⟨#[239, 191, 189]⟩ W)
          have b000 : Lib.hasPrefix (s.extract k s.size).data.toList [239, 191, 189] = true := by
            have := hbad
            unfold badRune at this
            rw [b0] at this
            simpa using this
          have e0 : (⟨#[239, 191, 189]⟩ : ByteArray).data.toList = [239, 191, 189] := rfl
          rw [e0, b000] at hpre
          have hks : k ≤ s.size := Nat.le_of_lt hk
          clear hr b000 e0
          skip
          · -- the next rune is taken
            have hlook : st.look (badRune s k r) = st := by rw [hbad]; rfl
            by_cases hw0 : st.wrong = 0
            · have b1 : (st.wrong != 0) = false := by simpa using hw0
              have hr8 := hr2.out.cells.2.2.2.2.2.2.2.1
              have htk := Lib.hid (take_calls hg2.out H8.out (Nat.le_trans H8.out (Nat.le_add_right _ 2)) hr2.out r (by omega) (by omega))
              obtain ⟨tl1, tl2, _, _⟩ := take_fields st r
              have hol := Lib.hid (show 0 ≤ (st.take r).line ∧ (st.take r).line ≤ 4611686018427387904 from by rw [tl1]; omega)
              have hoc := Lib.hid (show 0 ≤ (st.take r).col ∧ (st.take r).col ≤ 4611686018427387904 from by rw [tl2]; omega)
              have hfit := go_fits HA.out.fits hpos r
              have Hrel := Lib.hid (fun w' q => (⟨k + n, f - 1, st.go r, by omega, by omega, hstep.out w' (st.go r) q hfit, by rw [hgo.out (by rw [hlook]; exact hw0), hlook]⟩ : RdRel s w w'))
              clear hw0 hlook tl1 tl2 hfit hstop hbad
              go_wp2_with (first | (go_at_call 48; refine hpre.out.mono ?_; rintro e w' ⟨rfl, rfl⟩)| (go_at_call 51; refine htk.out.mono ?_; rintro e w1 ⟨rfl, ⟨⟨tA1, tc1, wA1, wc1, h10⟩, k10⟩⟩; have H1 := Lib.hid h10; have K1 := Lib.hid k10; clear h10 k10) | (go_at_call 52; refine (over_spot H1.out r (hol.out) (hoc.out)).mono ?_; rintro e w2 ⟨rfl, h20, k20⟩; have H2 := Lib.hid h20; have K2 := Lib.hid (K1.out.trans k20); clear h20 k20))
              go_roundw
              case rel => exact Lib.hid (Hrel.out _ ⟨⟨_, _, _, _, H2.out⟩, K2.out⟩)
              case measure =>
                have hit : w2.heap[w.heap.size + 1]? = some (.stringIter s (k + n)) := (hstep.out w2 (st.go r) ⟨⟨_, _, _, _, H2.out⟩, K2.out⟩ (go_fits HA.out.fits hpos r)).iter
                have hip2 := iterPos_of hit
                have hip1 := hip.out
                rw [hip2, hip1]
                omega
            · have b1 : (st.wrong != 0) = true := by simpa using hw0
              have hr8 := hr2.out.cells.2.2.2.2.2.2.2.1
              have HE := Lib.hid (show rdAll s = st.close from by unfold rdAll; rw [hstop.out (by rw [hlook]; exact hw0), hlook])
              have HRf := hr2
              have HGf := hg2
              have HKf := hk2
              have hnf := Lib.hid (show st.words.length ≤ 1099511627776 from by omega)
              have htf := Lib.hid (show st.text.length ≤ 1099511627776 from by omega)
              clear hw0 hlook hgo hstop hbad
              by_cases hfin : (rdAll s).wrong = 0
              · have b8 : ((rdAll s).wrong != 0) = false := by simpa using hfin
                have HF := Lib.hid hfin
                clear hfin
                go_wp2_with (first | (go_at_call 48; refine hpre.out.mono ?_; rintro e w' ⟨rfl, rfl⟩)| (go_at_call 49; refine (close_calls Atoi_holds HGf.out HRf.out hnf.out htf.out).mono ?_; rintro e w9 ⟨rfl, ⟨tA9, tc9, wA9, wc9, h9⟩, k90⟩; rw [← HE.out] at h9; have c7 := h9.cells.2.2.2.2.2.2.1; have c8 := h9.cells.2.2.2.2.2.2.2.1; have c9 := h9.cells.2.2.2.2.2.2.2.2.1; have c10 := h9.cells.2.2.2.2.2.2.2.2.2; have H9 := Lib.hid h9; have K9 := Lib.hid k90; clear h9 k90))
                exact bodyPost_ret (v := .tuple #[.slice wA9 (rdAll s).words.length wc9, .int .i64 0, .int .i64 0, .int .i64 0]) (by simp [results, Tryd.results30, go_sem]) rfl (readPost_ok HF.out H9.out HKf.out K9.out)
              · have b8 : ((rdAll s).wrong != 0) = true := by simpa using hfin
                have HF := Lib.hid hfin
                clear hfin
                go_wp2_with (first | (go_at_call 48; refine hpre.out.mono ?_; rintro e w' ⟨rfl, rfl⟩)| (go_at_call 49; refine (close_calls Atoi_holds HGf.out HRf.out hnf.out htf.out).mono ?_; rintro e w9 ⟨rfl, ⟨tA9, tc9, wA9, wc9, h9⟩, k90⟩; rw [← HE.out] at h9; have c7 := h9.cells.2.2.2.2.2.2.1; have c8 := h9.cells.2.2.2.2.2.2.2.1; have c9 := h9.cells.2.2.2.2.2.2.2.2.1; have c10 := h9.cells.2.2.2.2.2.2.2.2.2; have H9 := Lib.hid h9; have K9 := Lib.hid k90; clear h9 k90))
                go_quiet (fail)
                go_wp2
                exact bodyPost_ret (v := .tuple #[.slice none 0 0, .int .i64 (rdAll s).al, .int .i64 (rdAll s).ac, .int .i64 (rdAll s).wrong]) (by simp [results, Tryd.results30, go_sem]) rfl (readPost_bad HF.out HKf.out (K9.out.drewN _))
        · have b0 : (r == 65533) = false := by simpa using hr
          clear hr
          skip
          · -- the next rune is taken
            have hlook : st.look (badRune s k r) = st := by rw [hbad]; rfl
            by_cases hw0 : st.wrong = 0
            · have b1 : (st.wrong != 0) = false := by simpa using hw0
              have hr8 := hr2.out.cells.2.2.2.2.2.2.2.1
              have htk := Lib.hid (take_calls hg2.out H8.out (Nat.le_trans H8.out (Nat.le_add_right _ 2)) hr2.out r (by omega) (by omega))
              obtain ⟨tl1, tl2, _, _⟩ := take_fields st r
              have hol := Lib.hid (show 0 ≤ (st.take r).line ∧ (st.take r).line ≤ 4611686018427387904 from by rw [tl1]; omega)
              have hoc := Lib.hid (show 0 ≤ (st.take r).col ∧ (st.take r).col ≤ 4611686018427387904 from by rw [tl2]; omega)
              have hfit := go_fits HA.out.fits hpos r
              have Hrel := Lib.hid (fun w' q => (⟨k + n, f - 1, st.go r, by omega, by omega, hstep.out w' (st.go r) q hfit, by rw [hgo.out (by rw [hlook]; exact hw0), hlook]⟩ : RdRel s w w'))
              clear hw0 hlook tl1 tl2 hfit hstop hbad
              go_wp2_with (first | (go_at_call 51; refine htk.out.mono ?_; rintro e w1 ⟨rfl, ⟨⟨tA1, tc1, wA1, wc1, h10⟩, k10⟩⟩; have H1 := Lib.hid h10; have K1 := Lib.hid k10; clear h10 k10) | (go_at_call 52; refine (over_spot H1.out r (hol.out) (hoc.out)).mono ?_; rintro e w2 ⟨rfl, h20, k20⟩; have H2 := Lib.hid h20; have K2 := Lib.hid (K1.out.trans k20); clear h20 k20))
              go_roundw
              case rel => exact Lib.hid (Hrel.out _ ⟨⟨_, _, _, _, H2.out⟩, K2.out⟩)
              case measure =>
                have hit : w2.heap[w.heap.size + 1]? = some (.stringIter s (k + n)) := (hstep.out w2 (st.go r) ⟨⟨_, _, _, _, H2.out⟩, K2.out⟩ (go_fits HA.out.fits hpos r)).iter
                have hip2 := iterPos_of hit
                have hip1 := hip.out
                rw [hip2, hip1]
                omega
            · have b1 : (st.wrong != 0) = true := by simpa using hw0
              have hr8 := hr2.out.cells.2.2.2.2.2.2.2.1
              have HE := Lib.hid (show rdAll s = st.close from by unfold rdAll; rw [hstop.out (by rw [hlook]; exact hw0), hlook])
              have HRf := hr2
              have HGf := hg2
              have HKf := hk2
              have hnf := Lib.hid (show st.words.length ≤ 1099511627776 from by omega)
              have htf := Lib.hid (show st.text.length ≤ 1099511627776 from by omega)
              clear hw0 hlook hgo hstop hbad
              by_cases hfin : (rdAll s).wrong = 0
              · have b8 : ((rdAll s).wrong != 0) = false := by simpa using hfin
                have HF := Lib.hid hfin
                clear hfin
                go_wp2_with (first | (go_at_call 49; refine (close_calls Atoi_holds HGf.out HRf.out hnf.out htf.out).mono ?_; rintro e w9 ⟨rfl, ⟨tA9, tc9, wA9, wc9, h9⟩, k90⟩; rw [← HE.out] at h9; have c7 := h9.cells.2.2.2.2.2.2.1; have c8 := h9.cells.2.2.2.2.2.2.2.1; have c9 := h9.cells.2.2.2.2.2.2.2.2.1; have c10 := h9.cells.2.2.2.2.2.2.2.2.2; have H9 := Lib.hid h9; have K9 := Lib.hid k90; clear h9 k90))
                exact bodyPost_ret (v := .tuple #[.slice wA9 (rdAll s).words.length wc9, .int .i64 0, .int .i64 0, .int .i64 0]) (by simp [results, Tryd.results30, go_sem]) rfl (readPost_ok HF.out H9.out HKf.out K9.out)
              · have b8 : ((rdAll s).wrong != 0) = true := by simpa using hfin
                have HF := Lib.hid hfin
                clear hfin
                go_wp2_with (first | (go_at_call 49; refine (close_calls Atoi_holds HGf.out HRf.out hnf.out htf.out).mono ?_; rintro e w9 ⟨rfl, ⟨tA9, tc9, wA9, wc9, h9⟩, k90⟩; rw [← HE.out] at h9; have c7 := h9.cells.2.2.2.2.2.2.1; have c8 := h9.cells.2.2.2.2.2.2.2.1; have c9 := h9.cells.2.2.2.2.2.2.2.2.1; have c10 := h9.cells.2.2.2.2.2.2.2.2.2; have H9 := Lib.hid h9; have K9 := Lib.hid k90; clear h9 k90))
                go_quiet (fail)
                go_wp2
                exact bodyPost_ret (v := .tuple #[.slice none 0 0, .int .i64 (rdAll s).al, .int .i64 (rdAll s).ac, .int .i64 (rdAll s).wrong]) (by simp [results, Tryd.results30, go_sem]) rfl (readPost_bad HF.out HKf.out (K9.out.drewN _))
    · have hnx := fun ty => Lib.run_next_end_at (P := Tryd.prog) wr (w.heap.size + 1) s k ty hat.iter hk
      have HE := Lib.hid (show rdAll s = st.close from by unfold rdAll; rw [heq, rdLoop_end hk])
      have HRf := Lib.hid hrs
      have HGf := Lib.hid hat.glob
      have HKf := Lib.hid hat.keep
      have hnf := Lib.hid (show st.words.length ≤ 1099511627776 from by omega)
      have htf := Lib.hid (show st.text.length ≤ 1099511627776 from by omega)
      clear hrs hat heq
      by_cases hfin : (rdAll s).wrong = 0
      · have b8 : ((rdAll s).wrong != 0) = false := by simpa using hfin
        have HF := Lib.hid hfin
        clear hfin
        go_wp2_with (first | (go_at_call 49; refine (close_calls Atoi_holds HGf.out HRf.out hnf.out htf.out).mono ?_; rintro e w9 ⟨rfl, ⟨tA9, tc9, wA9, wc9, h9⟩, k90⟩; rw [← HE.out] at h9; have c7 := h9.cells.2.2.2.2.2.2.1; have c8 := h9.cells.2.2.2.2.2.2.2.1; have c9 := h9.cells.2.2.2.2.2.2.2.2.1; have c10 := h9.cells.2.2.2.2.2.2.2.2.2; have H9 := Lib.hid h9; have K9 := Lib.hid k90; clear h9 k90))
        exact bodyPost_ret (v := .tuple #[.slice wA9 (rdAll s).words.length wc9, .int .i64 0, .int .i64 0, .int .i64 0]) (by simp [results, Tryd.results30, go_sem]) rfl (readPost_ok HF.out H9.out HKf.out K9.out)
      · have b8 : ((rdAll s).wrong != 0) = true := by simpa using hfin
        have HF := Lib.hid hfin
        clear hfin
        go_wp2_with (first | (go_at_call 49; refine (close_calls Atoi_holds HGf.out HRf.out hnf.out htf.out).mono ?_; rintro e w9 ⟨rfl, ⟨tA9, tc9, wA9, wc9, h9⟩, k90⟩; rw [← HE.out] at h9; have c7 := h9.cells.2.2.2.2.2.2.1; have c8 := h9.cells.2.2.2.2.2.2.2.1; have c9 := h9.cells.2.2.2.2.2.2.2.2.1; have c10 := h9.cells.2.2.2.2.2.2.2.2.2; have H9 := Lib.hid h9; have K9 := Lib.hid k90; clear h9 k90))
        go_quiet (fail)
        go_wp2
        exact bodyPost_ret (v := .tuple #[.slice none 0 0, .int .i64 (rdAll s).al, .int .i64 (rdAll s).ac, .int .i64 (rdAll s).wrong]) (by simp [results, Tryd.results30, go_sem]) rfl (readPost_bad HF.out HKf.out (K9.out.drewN _))

end Go.Proofs.YtfpjdgobannneaaDoor
