/-
  The contract of the reader's take, whole.
-/
import Derived.Test.YtoibcaoaljglbaaDoorWordF
namespace Go.Proofs.YtoibcaoaljglbaaDoor
open Go Go.RowKit

section
variable {base b : Nat} {st : Rd} {w : World} {tA wA : Option Addr} {tc wc : Nat}

theorem close1_words (st : Rd) : st.close1.words.length ≤ st.words.length + 1 := by
  unfold Rd.close1
  split
  · split <;> simp [Rd.put, fail_words]
  · split
    · split <;> simp [Rd.put, fail_words]
    · split <;> simp [fail_words]

theorem close_words (st : Rd) : st.close.words.length ≤ st.words.length + 1 := close1_words st

theorem glob_rd {w w' : World} (h : Glob w) (hk : Keeps (fun k => k = b ∨ base ≤ k) w w') (hb : 4 ≤ b) (hbase : 4 ≤ base) : Glob w' :=
  h.keeps hk (fun k hk => by omega)

set_option maxRecDepth 100000 in
set_option maxHeartbeats 1000000 in
theorem take_digit (h : RS base w b st tA tc wA wc) (hs : st.state = 3 ∨ st.state = 4) (c : Int) (hc : digitB c = true) (ht : st.text.length ≤ 1099511627776) :
    Calls Tryd.prog 27 #[.pointer (some ⟨b, 0, none⟩), .int .i32 c] w fun e' w' => e' = .returned (.tuple #[]) ∧ RSK base w w' b (st.take c) := by
  have e2 : st.take c = { st.more c with state := 4 } := by
    unfold Rd.take
    rw [if_neg (by rcases hs with q | q <;> rw [q] <;> decide), if_neg (by rintro ⟨q, _⟩; rcases hs with r | r <;> rw [r] at q <;> exact absurd q (by decide)), if_pos ⟨hs, hc⟩]
  rw [e2]
  have c2 := h.cells.2.2.1
  have c5 := h.cells.2.2.2.2.2.1
  have f5 := h.free 5
  obtain ⟨i0, hi, hz0, hz1, hz2⟩ := info_parts info_rune
  have hown := Lib.hid h.text
  have hbase := h.size
  have hlt := h.lt
  have H := Lib.hid h
  clear h e2
  have fin : ∀ (o : Obj) (w1 : World) (g cap : Nat),
    w1.ownsRow base 21 1 (.slice (some ⟨g, 0, none⟩) (st.text.length + 1) cap) (st.text.length + 1) (runes st.text ++ [.int .i32 c]) →
    (w.alloc o).grownBy w1 (Value.slice tA st.text.length tc).ownBlock → RSK base w ((w1.setCell ⟨b, 5, none⟩ (.slice (some ⟨g, 0, none⟩) (st.text.length + 1) cap)).setCell ⟨b, 2, none⟩ (.int .i64 4)) b { st.more c with state := 4 } := fun o w1 g cap a1 a2 => by
      obtain ⟨q1, q2⟩ := H.out.text_fin c a1 a2
      exact ⟨⟨_, _, _, _, q1.set 2 (.int .i64 4) { st.more c with state := 4 } rfl rfl rfl⟩, q2.setCell (p := ⟨b, 2, none⟩) (Or.inl (Or.inl rfl)) _⟩
  have Fin := Lib.hid fin
  clear fin
  have hd := Lib.hid (digit_t c w hc)
  clear hc
  rcases hs with hs | hs
  all_goals
    rw [hs] at c2
    clear hs
    go_enter Tryd.func27, Tryd.ntmps27
    go_wp2_with (first | (go_at_call 59; refine hd.out.mono ?_; rintro e w' ⟨rfl, rfl⟩) | (at_builtin; refine wpList_append_lies _ rfl (.tmp 47) (.tmp 49) 55 rfl base 21 i0 (.int .i32 0) 1 4 Tryd.underlying55 hi hz0 hz1 hz2 rfl (by decide) (.slice tA st.text.length tc) st.text.length (runes st.text) rfl (by exact hown.out.alloc _) ⟨w.heap.size, 0, none⟩ 1 1 [.int .i32 c] rfl rfl (by exact World.news_of_block (blk_new w _)) (one_rune c) (by decide) (by unfold maxLen; omega) (by omega) (by simp; omega) (w.heap.size + 1) (by simp) ?_; intro g cap w1 hw1 hw2 hw3 hw4; have hb1 := H.out.grown_text hw2; have q5 : w1.cell? ⟨b, 5, none⟩ = some (.slice tA st.text.length tc) := (blk_cell hb1 5).trans rfl; have q2 : w1.cell? ⟨b, 2, none⟩ = some (.int .i64 st.state) := (blk_cell hb1 2).trans rfl; have g5 := blk_free hb1 5; have g2 := blk_free hb1 2; have Hw1 := Lib.hid hw1; have Hw2 := Lib.hid hw2; clear hw1 hw2 hw3 hw4 hb1))
    refine bodyPost_ret (v := .tuple #[]) (by simp [results, Tryd.results27, go_sem]) rfl ?_
    exact ⟨rfl, Fin.out _ _ _ _ Hw1.out Hw2.out⟩

/-- close, then begin -/
theorem close_begin (hG : Glob w) (h : RS base w b st tA tc wA wc) (hn : st.words.length + 1 ≤ 1099511627776) (ht : st.text.length ≤ 1099511627776) (c : Int) :
    Calls Tryd.prog 25 #[.pointer (some ⟨b, 0, none⟩)] w fun e' w1 => e' = .returned (.tuple #[]) ∧ Keeps (fun k => k = b ∨ base ≤ k) w w1 ∧
      Calls Tryd.prog 57 #[.pointer (some ⟨b, 0, none⟩), .int .i32 c] w1 fun e' w2 => e' = .returned (.tuple #[]) ∧ RSK base w w2 b (st.close.begin c) := by
  refine (close_calls Atoi_holds hG h (by omega) ht).mono ?_
  rintro e w1 ⟨rfl, ⟨tA2, tc2, wA2, wc2, h1⟩, hk⟩
  refine ⟨rfl, hk, ?_⟩
  refine (begin_calls h1 c (by have := close_words st; omega)).mono ?_
  rintro e w2 ⟨rfl, h2⟩
  exact ⟨rfl, h2.trans hk⟩

set_option maxRecDepth 100000 in
set_option maxHeartbeats 1000000 in
theorem take_plain (hG : Glob w) (h : RS base w b st tA tc wA wc) (c : Int) (h1 : st.state ≠ 1) (h2 : ¬ (st.state = 2 ∧ (letterB c = true ∨ digitB c = true)))
    (h3 : ¬ ((st.state = 3 ∨ st.state = 4) ∧ digitB c = true)) (h4 : ¬ (st.state = 4 ∧ letterB c = true)) (hn : st.words.length + 1 ≤ 1099511627776) (ht : st.text.length ≤ 1099511627776) :
    Calls Tryd.prog 27 #[.pointer (some ⟨b, 0, none⟩), .int .i32 c] w fun e' w' => e' = .returned (.tuple #[]) ∧ RSK base w w' b (st.take c) := by
  have e2 : st.take c = st.close.begin c := by
    unfold Rd.take
    rw [if_neg h1, if_neg h2, if_neg h3, if_neg h4]
  rw [e2]
  have c2 := h.cells.2.2.1
  have Hc := Lib.hid (close_begin hG h hn ht c)
  have b1 : (st.state == 1) = false := by simpa using h1
  clear h e2 hG
  by_cases s2 : st.state = 2
  · have hl := Lib.hid (Letter_f c w (by cases q : letterB c; rfl; exact absurd ⟨s2, Or.inl q⟩ h2))
    have hd := Lib.hid (digit_f c w (by cases q : digitB c; rfl; exact absurd ⟨s2, Or.inr q⟩ h2))
    rw [s2] at c2
    clear h1 h2 h3 h4 s2 b1
    go_enter Tryd.func27, Tryd.ntmps27
    go_wp2_with (first | (go_at_call 58; refine hl.out.mono ?_; rintro e w' ⟨rfl, rfl⟩) | (go_at_call 59; refine hd.out.mono ?_; rintro e w' ⟨rfl, rfl⟩) | (go_at_call 25; refine Hc.out.mono ?_; rintro e w1 ⟨rfl, hk, h20⟩; have c2' : w1.cell? ⟨b, 2, none⟩ = w1.cell? ⟨b, 2, none⟩ := rfl; have H2 := Lib.hid h20; clear h20 hk c2') | (go_at_call 57; refine H2.out.mono ?_; rintro e w2 ⟨rfl, h50⟩; have h5 := Lib.hid h50; clear h50))
    go_end0
    exact ⟨rfl, h5.out⟩
  · have b2 : (st.state == 2) = false := by simpa using s2
    by_cases s3 : st.state = 3
    · have hd := Lib.hid (digit_f c w (by cases q : digitB c; rfl; exact absurd ⟨Or.inl s3, q⟩ h3))
      rw [s3] at c2
      clear h1 h2 h3 h4 s2 b1 b2 s3
      go_enter Tryd.func27, Tryd.ntmps27
      go_wp2_with (first | (go_at_call 59; refine hd.out.mono ?_; rintro e w' ⟨rfl, rfl⟩) | (go_at_call 25; refine Hc.out.mono ?_; rintro e w1 ⟨rfl, hk, h20⟩; have H2 := Lib.hid h20; clear h20 hk) | (go_at_call 57; refine H2.out.mono ?_; rintro e w2 ⟨rfl, h50⟩; have h5 := Lib.hid h50; clear h50))
      go_end0
      exact ⟨rfl, h5.out⟩
    · have b3 : (st.state == 3) = false := by simpa using s3
      by_cases s4 : st.state = 4
      · have hl := Lib.hid (Letter_f c w (by cases q : letterB c; rfl; exact absurd ⟨s4, q⟩ h4))
        have hd := Lib.hid (digit_f c w (by cases q : digitB c; rfl; exact absurd ⟨Or.inr s4, q⟩ h3))
        rw [s4] at c2
        clear h1 h2 h3 h4 s2 b1 b2 s3 b3 s4
        go_enter Tryd.func27, Tryd.ntmps27
        go_wp2_with (first | (go_at_call 58; refine hl.out.mono ?_; rintro e w' ⟨rfl, rfl⟩) | (go_at_call 59; refine hd.out.mono ?_; rintro e w' ⟨rfl, rfl⟩) | (go_at_call 25; refine Hc.out.mono ?_; rintro e w1 ⟨rfl, hk, h20⟩; have H2 := Lib.hid h20; clear h20 hk) | (go_at_call 57; refine H2.out.mono ?_; rintro e w2 ⟨rfl, h50⟩; have h5 := Lib.hid h50; clear h50))
        go_end0
        exact ⟨rfl, h5.out⟩
      · have b4 : (st.state == 4) = false := by simpa using s4
        clear h1 h2 h3 h4 s2 s3 s4
        go_enter Tryd.func27, Tryd.ntmps27
        go_wp2_with (first | (go_at_call 25; refine Hc.out.mono ?_; rintro e w1 ⟨rfl, hk, h20⟩; have H2 := Lib.hid h20; clear h20 hk) | (go_at_call 57; refine H2.out.mono ?_; rintro e w2 ⟨rfl, h50⟩; have h5 := Lib.hid h50; clear h50))
        go_end0
        exact ⟨rfl, h5.out⟩

/-- a letter right behind a number: close, fail, close, begin -/
theorem odd_chain (hG : Glob w) (hb : 4 ≤ b) (hbase : 4 ≤ base) (h : RS base w b st tA tc wA wc) (hn : st.words.length + 2 ≤ 1099511627776) (ht : st.text.length ≤ 1099511627776) (c : Int) (l cc : Int) :
    Calls Tryd.prog 25 #[.pointer (some ⟨b, 0, none⟩)] w fun e' w1 => e' = .returned (.tuple #[]) ∧ (w1.cell? ⟨b, 0, none⟩ = some (.int .i64 st.close.line) ∧ w1.cell? ⟨b, 1, none⟩ = some (.int .i64 st.close.col)) ∧
      Calls Tryd.prog 26 #[.pointer (some ⟨b, 0, none⟩), .int .i64 6, .agg #[.int .i64 l, .int .i64 cc]] w1 fun e' w2 => e' = .returned (.tuple #[]) ∧
        Calls Tryd.prog 25 #[.pointer (some ⟨b, 0, none⟩)] w2 fun e' w3 => e' = .returned (.tuple #[]) ∧
          Calls Tryd.prog 57 #[.pointer (some ⟨b, 0, none⟩), .int .i32 c] w3 fun e' w4 => e' = .returned (.tuple #[]) ∧ RSK base w w4 b (((st.close.fail 6 l cc).close).begin c) := by
  refine (close_calls Atoi_holds hG h (by omega) ht).mono ?_
  rintro e w1 ⟨rfl, ⟨tA2, tc2, wA2, wc2, h1⟩, hk⟩
  refine ⟨rfl, ⟨h1.cells.1, h1.cells.2.1⟩, ?_⟩
  refine (fail_word h1 6 l cc).mono ?_
  rintro e w2 ⟨rfl, h2, hk2⟩
  refine ⟨rfl, ?_⟩
  have hc := close_words st
  have hw : (st.close.fail 6 l cc).words = st.close.words := fail_words _ _ _ _
  have ht2 : (st.close.fail 6 l cc).text = [] := by unfold Rd.fail; split <;> rfl
  refine (close_begin (glob_rd hG (hk.trans hk2) hb hbase) h2 (by rw [hw]; omega) (by rw [ht2]; simp) c).mono ?_
  rintro e w3 ⟨rfl, hk3, h3⟩
  refine ⟨rfl, ?_⟩
  refine h3.mono ?_
  rintro e w4 ⟨rfl, h4⟩
  exact ⟨rfl, h4.trans (hk.trans hk2)⟩

theorem close_line (st : Rd) : st.close.line = st.line ∧ st.close.col = st.col := by
  have hf : ∀ (s : Rd) e l c, (s.fail e l c).line = s.line ∧ (s.fail e l c).col = s.col := by
    intro s e l c
    unfold Rd.fail
    split <;> exact ⟨rfl, rfl⟩
  show st.close1.line = st.line ∧ st.close1.col = st.col
  unfold Rd.close1
  split
  · split
    · exact hf _ _ _ _
    · exact ⟨rfl, rfl⟩
  · split
    · split
      · exact hf _ _ _ _
      · exact ⟨rfl, rfl⟩
    · split
      · exact hf _ _ _ _
      · exact ⟨rfl, rfl⟩

set_option maxRecDepth 100000 in
set_option maxHeartbeats 1000000 in
theorem take_odd (hG : Glob w) (hb : 4 ≤ b) (hbase : 4 ≤ base) (h : RS base w b st tA tc wA wc) (c : Int) (s4 : st.state = 4) (h3 : digitB c = false) (h4 : letterB c = true)
    (hn : st.words.length + 2 ≤ 1099511627776) (ht : st.text.length ≤ 1099511627776) :
    Calls Tryd.prog 27 #[.pointer (some ⟨b, 0, none⟩), .int .i32 c] w fun e' w' => e' = .returned (.tuple #[]) ∧ RSK base w w' b (st.take c) := by
  have e2 : st.take c = ((st.close.fail 6 st.line st.col).close).begin c := by
    unfold Rd.take
    rw [if_neg (by rw [s4]; decide), if_neg (by rintro ⟨q, _⟩; rw [s4] at q; exact absurd q (by decide)), if_neg (by rintro ⟨_, q⟩; rw [h3] at q; exact absurd q (by decide)), if_pos ⟨s4, h4⟩]
  rw [e2]
  have c2 := h.cells.2.2.1
  obtain ⟨cl, cc⟩ := close_line st
  have Hc := odd_chain hG hb hbase h hn ht c st.line st.col
  rw [cl, cc] at Hc
  have HC := Lib.hid Hc
  have hl := Lib.hid (Letter_t c w h4)
  have hd := Lib.hid (digit_f c w h3)
  rw [s4] at c2
  clear h e2 hG Hc cl cc s4 h3 h4
  go_enter Tryd.func27, Tryd.ntmps27
  go_wp2_with (first | (go_at_call 58; refine hl.out.mono ?_; rintro e w' ⟨rfl, rfl⟩) | (go_at_call 59; refine hd.out.mono ?_; rintro e w' ⟨rfl, rfl⟩) | (go_at_call 25; refine H3.out.mono ?_; rintro e w3 ⟨rfl, h30⟩; have H4 := Lib.hid h30; clear h30) | (go_at_call 25; refine HC.out.mono ?_; rintro e w1 ⟨rfl, ⟨d0, d1⟩, h20⟩; have H2 := Lib.hid h20; clear h20) | (go_at_call 26; refine H2.out.mono ?_; rintro e w2 ⟨rfl, h20⟩; have H3 := Lib.hid h20; clear h20) | (go_at_call 57; refine H4.out.mono ?_; rintro e w4 ⟨rfl, h50⟩; have h5 := Lib.hid h50; clear h50))
  go_end0
  exact ⟨rfl, h5.out⟩

theorem take_calls (hG : Glob w) (hb : 4 ≤ b) (hbase : 4 ≤ base) (h : RS base w b st tA tc wA wc) (c : Int)
    (hn : st.words.length + 2 ≤ 1099511627776) (ht : st.text.length ≤ 1099511627776) :
    Calls Tryd.prog 27 #[.pointer (some ⟨b, 0, none⟩), .int .i32 c] w fun e' w' => e' = .returned (.tuple #[]) ∧ RSK base w w' b (st.take c) := by
  by_cases h1 : st.state = 1
  · exact take_remark h h1 c (by omega)
  · by_cases h2 : st.state = 2 ∧ (letterB c = true ∨ digitB c = true)
    · exact take_more h h2.1 c h2.2 ht
    · by_cases h3 : (st.state = 3 ∨ st.state = 4) ∧ digitB c = true
      · exact take_digit h h3.1 c h3.2 ht
      · by_cases h4 : st.state = 4 ∧ letterB c = true
        · exact take_odd hG hb hbase h c h4.1 (by cases q : digitB c; rfl; exact absurd ⟨Or.inr h4.1, q⟩ h3) h4.2 hn ht
        · exact take_plain hG h c h1 h2 h3 h4 (by omega) ht

end
end Go.Proofs.YtoibcaoaljglbaaDoor
