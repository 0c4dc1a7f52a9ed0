/-
  The contract of the reader's take.
-/
import Derived.Test.YtoibcaoaljglbaaDoorWordE
namespace Go.Proofs.YtoibcaoaljglbaaDoor
open Go Go.RowKit

section
variable {base b : Nat} {st : Rd} {w : World} {tA wA : Option Addr} {tc wc : Nat}

def Rd.more (st : Rd) (c : Int) : Rd := { st with text := st.text ++ [c] }

theorem RS.grown_text (h : RS base w b st tA tc wA wc) {o : Obj} {w1 : World} (hg : (w.alloc o).grownBy w1 (Value.slice tA st.text.length tc).ownBlock) : w1.heap[b]? = some (RdBlk tA tc wA wc st) := by
  rw [hg.block b (by have := h.lt; simp; omega) (fun e => own_ne h.text h.blk (by decide) e.symm)]
  exact blk_alloc h.blk o

theorem RS.text_fin (h : RS base w b st tA tc wA wc) (c : Int) {o : Obj} {w1 : World} {g cap : Nat}
    (hw1 : w1.ownsRow base 21 1 (.slice (some ⟨g, 0, none⟩) (st.text.length + 1) cap) (st.text.length + 1) (runes st.text ++ [.int .i32 c]))
    (hg : (w.alloc o).grownBy w1 (Value.slice tA st.text.length tc).ownBlock) :
    RS base (w1.setCell ⟨b, 5, none⟩ (.slice (some ⟨g, 0, none⟩) (st.text.length + 1) cap)) b (st.more c) (some ⟨g, 0, none⟩) cap wA wc ∧ Keeps (fun k => k = b ∨ base ≤ k) w (w1.setCell ⟨b, 5, none⟩ (.slice (some ⟨g, 0, none⟩) (st.text.length + 1) cap)) := by
  have hb := h.grown_text hg
  refine ⟨⟨?_, ?_, ?_, by have h1 := hg.size; have h2 := h.size; simp [World.setCell] at h1 ⊢; omega⟩, ?_⟩
  · have := blk_set hb 5 (.slice (some ⟨g, 0, none⟩) (st.text.length + 1) cap)
    rw [this]
    simp [RdBlk, Rd.more]
  · have h2 := own_set hw1 (b := b) (own_ne hw1 hb (by decide)) 5 (.slice (some ⟨g, 0, none⟩) (st.text.length + 1) cap)
    have e : runes (st.text ++ [c]) = runes st.text ++ [.int .i32 c] := by simp [runes]
    simp only [Rd.more, List.length_append, List.length_cons, List.length_nil]
    rw [e]
    exact h2
  · have h1 : w1.ownsRow base 33 5 (.slice wA st.words.length wc) st.words.length (wcells st.words) := World.ownsRow.kept (w := w.alloc o) (h.words.alloc o) hg (own_apart h.words h.text (by decide))
    exact own_set h1 (own_ne h.words h.blk (by decide)) 5 _
  · refine Keeps.setCell ?_ (p := ⟨b, 5, none⟩) (Or.inl (Or.inl rfl)) _
    exact ((Keeps.refl _ w).alloc o).grown hg (fun k hk => Or.inl (Or.inr (own_ge h.text k hk)))

def Rd.take (st : Rd) (c : Int) : Rd :=
  if st.state = 1 then (if c = 10 then { st with state := 0 }.begin 10 else st)
  else if st.state = 2 ∧ (letterB c = true ∨ digitB c = true) then st.more c
  else if (st.state = 3 ∨ st.state = 4) ∧ digitB c = true then { st.more c with state := 4 }
  else if st.state = 4 ∧ letterB c = true then ((st.close.fail 6 st.line st.col).close).begin c
  else st.close.begin c

theorem one_rune (c : Int) : ∀ u ∈ [Value.int .i32 c], u.oneCell' = true := by
  intro u hu
  simp at hu
  subst hu
  rfl

set_option maxRecDepth 100000 in
set_option maxHeartbeats 1000000 in
theorem take_remark (h : RS base w b st tA tc wA wc) (hs : st.state = 1) (c : Int) (hn : st.words.length ≤ 1099511627776) :
    Calls Tryd.prog 27 #[.pointer (some ⟨b, 0, none⟩), .int .i32 c] w fun e' w' => e' = .returned (.tuple #[]) ∧ RSK base w w' b (st.take c) := by
  have c2 := h.cells.2.2.1
  have f2 := h.free 2
  rw [hs] at c2
  have H := Lib.hid h
  clear h
  by_cases e1 : c = 10
  · subst e1
    have e2 : st.take 10 = { st with state := 0 }.begin 10 := by unfold Rd.take; rw [if_pos hs, if_pos rfl]
    have h1 := H.out.set 2 (.int .i64 0) { st with state := 0 } rfl rfl rfl
    have hk : Keeps (fun k => k = b ∨ base ≤ k) w (w.setCell ⟨b, 2, none⟩ (.int .i64 0)) := (Keeps.refl _ _).setCell (p := ⟨b, 2, none⟩) (Or.inl (Or.inl rfl)) _
    have hb := begin_calls h1 10 hn
    rw [← e2] at hb
    have Hb := Lib.hid hb
    have Hk := Lib.hid hk
    clear hs e2 h1 hk hb
    go_enter Tryd.func27, Tryd.ntmps27
    go_wp2_with (first | (go_at_call 57; refine Hb.out.mono ?_; rintro e w1 ⟨rfl, h10⟩; have h1 := Lib.hid h10; clear h10))
    refine bodyPost_ret (v := .tuple #[]) (by simp [results, Tryd.results27, go_sem]) rfl ?_
    exact ⟨rfl, h1.out.1, Hk.out.trans h1.out.2⟩
  · have e2 : st.take c = st := by unfold Rd.take; rw [if_pos hs, if_neg e1]
    have e3 : (c == 10) = false := by simpa using e1
    have Fin := Lib.hid (show RSK base w w b (st.take c) from by rw [e2]; exact ⟨⟨_, _, _, _, H.out⟩, Keeps.refl _ _⟩)
    clear hs e1 e2
    go_enter Tryd.func27, Tryd.ntmps27
    go_wp2
    refine bodyPost_ret (v := .tuple #[]) (by simp [results, Tryd.results27, go_sem]) rfl ?_
    exact ⟨rfl, Fin.out⟩

set_option maxRecDepth 100000 in
set_option maxHeartbeats 1000000 in
theorem take_more (h : RS base w b st tA tc wA wc) (hs : st.state = 2) (c : Int) (hc : letterB c = true ∨ digitB c = true) (ht : st.text.length ≤ 1099511627776) :
    Calls Tryd.prog 27 #[.pointer (some ⟨b, 0, none⟩), .int .i32 c] w fun e' w' => e' = .returned (.tuple #[]) ∧ RSK base w w' b (st.take c) := by
  have e2 : st.take c = st.more c := by unfold Rd.take; rw [if_neg (by rw [hs]; decide), if_pos ⟨hs, hc⟩]
  rw [e2]
  have c2 := h.cells.2.2.1
  have c5 := h.cells.2.2.2.2.2.1
  have f5 := h.free 5
  rw [hs] at c2
  obtain ⟨i0, hi, hz0, hz1, hz2⟩ := info_parts info_rune
  have hown := Lib.hid h.text
  have hbase := h.size
  have hlt := h.lt
  have H := Lib.hid h
  clear h hs e2
  have fin : ∀ (o : Obj) (w1 : World) (g cap : Nat),
    w1.ownsRow base 21 1 (.slice (some ⟨g, 0, none⟩) (st.text.length + 1) cap) (st.text.length + 1) (runes st.text ++ [.int .i32 c]) →
    (w.alloc o).grownBy w1 (Value.slice tA st.text.length tc).ownBlock → RSK base w (w1.setCell ⟨b, 5, none⟩ (.slice (some ⟨g, 0, none⟩) (st.text.length + 1) cap)) b (st.more c) := fun o w1 g cap a1 a2 => by
      obtain ⟨q1, q2⟩ := H.out.text_fin c a1 a2
      exact ⟨⟨_, _, _, _, q1⟩, q2⟩
  have Fin := Lib.hid fin
  clear fin
  cases e1 : letterB c with
  | true =>
    have hl := Lib.hid (Letter_t c w e1)
    clear e1 hc
    go_enter Tryd.func27, Tryd.ntmps27
    go_wp2_with (first | (go_at_call 58; refine hl.out.mono ?_; rintro e w' ⟨rfl, rfl⟩) | (at_builtin; refine wpList_append_lies _ rfl (.tmp 31) (.tmp 33) 55 rfl base 21 i0 (.int .i32 0) 1 4 Tryd.underlying55 hi hz0 hz1 hz2 rfl (by decide) (.slice tA st.text.length tc) st.text.length (runes st.text) rfl (by exact hown.out.alloc _) ⟨w.heap.size, 0, none⟩ 1 1 [.int .i32 c] rfl rfl (by exact World.news_of_block (blk_new w _)) (one_rune c) (by decide) (by unfold maxLen; omega) (by omega) (by simp; omega) (w.heap.size + 1) (by simp) ?_; intro g cap w1 hw1 hw2 hw3 hw4; have hb1 := H.out.grown_text hw2; have q5 : w1.cell? ⟨b, 5, none⟩ = some (.slice tA st.text.length tc) := (blk_cell hb1 5).trans rfl; have g5 := blk_free hb1 5; have Hw1 := Lib.hid hw1; have Hw2 := Lib.hid hw2; clear hw1 hw2 hw3 hw4 hb1))
    refine bodyPost_ret (v := .tuple #[]) (by simp [results, Tryd.results27, go_sem]) rfl ?_
    exact ⟨rfl, Fin.out _ _ _ _ Hw1.out Hw2.out⟩
  | false =>
    have hd := Lib.hid (digit_t c w (by rcases hc with q | q; rw [e1] at q; cases q; exact q))
    have hl := Lib.hid (Letter_f c w e1)
    clear e1 hc
    go_enter Tryd.func27, Tryd.ntmps27
    go_wp2_with (first | (go_at_call 58; refine hl.out.mono ?_; rintro e w' ⟨rfl, rfl⟩) | (go_at_call 59; refine hd.out.mono ?_; rintro e w' ⟨rfl, rfl⟩) | (at_builtin; refine wpList_append_lies _ rfl (.tmp 31) (.tmp 33) 55 rfl base 21 i0 (.int .i32 0) 1 4 Tryd.underlying55 hi hz0 hz1 hz2 rfl (by decide) (.slice tA st.text.length tc) st.text.length (runes st.text) rfl (by exact hown.out.alloc _) ⟨w.heap.size, 0, none⟩ 1 1 [.int .i32 c] rfl rfl (by exact World.news_of_block (blk_new w _)) (one_rune c) (by decide) (by unfold maxLen; omega) (by omega) (by simp; omega) (w.heap.size + 1) (by simp) ?_; intro g cap w1 hw1 hw2 hw3 hw4; have hb1 := H.out.grown_text hw2; have q5 : w1.cell? ⟨b, 5, none⟩ = some (.slice tA st.text.length tc) := (blk_cell hb1 5).trans rfl; have g5 := blk_free hb1 5; have Hw1 := Lib.hid hw1; have Hw2 := Lib.hid hw2; clear hw1 hw2 hw3 hw4 hb1))
    refine bodyPost_ret (v := .tuple #[]) (by simp [results, Tryd.results27, go_sem]) rfl ?_
    exact ⟨rfl, Fin.out _ _ _ _ Hw1.out Hw2.out⟩

end
end Go.Proofs.YtoibcaoaljglbaaDoor
