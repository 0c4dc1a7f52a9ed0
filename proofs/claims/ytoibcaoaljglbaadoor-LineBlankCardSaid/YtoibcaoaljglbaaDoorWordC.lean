/-
  The contract of the reader's begin.
-/
import Derived.Test.YtoibcaoaljglbaaDoorWordB
namespace Go.Proofs.YtoibcaoaljglbaaDoor
open Go Go.RowKit

section
variable {base b : Nat} {st : Rd} {w : World} {tA wA : Option Addr} {tc wc : Nat}

def Rd.fresh (st : Rd) (c : Int) : Rd := { st with fl := st.line, fc := st.col, text := [c] }

def Rd.begin (st : Rd) (c : Int) : Rd :=
  if letterB c = true then { st.fresh c with state := 2 }
  else if digitB c = true then { st.fresh c with state := 4 }
  else if c = 45 then { st.fresh c with state := 3 }
  else if c = 59 then { st.fresh c with state := 1 }
  else if c = 10 then (st.fresh c).put 4 ⟨#[]⟩ 0
  else if signB c = true then (st.fresh c).put 3 (Utf8.encode c) 0
  else if c ≠ 32 ∧ c ≠ 9 then (st.fresh c).fail 6 st.line st.col
  else st.fresh c

theorem begin1 (h : RS base w b st tA tc wA wc) (c : Int) :
    RS base ((((w.setCell ⟨b, 3, none⟩ (.int .i64 st.line)).setCell ⟨b, 4, none⟩ (.int .i64 st.col)).setCell ⟨b, 5, none⟩ (.slice (some ⟨w.heap.size, 0, none⟩) 1 1)).alloc (.cells #[.int .i32 c] 21)) b (st.fresh c) (some ⟨w.heap.size, 0, none⟩) 1 wA wc ∧
    Keeps (fun k => k = b ∨ base ≤ k) w ((((w.setCell ⟨b, 3, none⟩ (.int .i64 st.line)).setCell ⟨b, 4, none⟩ (.int .i64 st.col)).setCell ⟨b, 5, none⟩ (.slice (some ⟨w.heap.size, 0, none⟩) 1 1)).alloc (.cells #[.int .i32 c] 21)) := by
  have h1 := (h.set 3 (.int .i64 st.line) { st with fl := st.line } rfl rfl rfl).set 4 (.int .i64 st.col) { st with fl := st.line, fc := st.col } rfl rfl rfl
  refine ⟨⟨?_, ?_, ?_, by have := h.size; simp [World.setCell]; omega⟩, ?_⟩
  · refine blk_alloc ?_ _
    exact blk_set h1.blk 5 _
  · refine ⟨rfl, Or.inr ⟨w.heap.size, 1, #[.int .i32 c], rfl, h.size, ?_, Nat.le_refl _, by decide, rfl, rfl⟩⟩
    have := blk_new (((w.setCell ⟨b, 3, none⟩ (.int .i64 st.line)).setCell ⟨b, 4, none⟩ (.int .i64 st.col)).setCell ⟨b, 5, none⟩ (.slice (some ⟨w.heap.size, 0, none⟩) 1 1)) (.cells #[.int .i32 c] 21)
    simpa [World.setCell] using this
  · exact (own_set h1.words (own_ne h1.words h1.blk (by decide)) 5 _).alloc _
  · exact ((((Keeps.refl _ _).setCell (p := ⟨b, 3, none⟩) (Or.inl (Or.inl rfl)) _).setCell (p := ⟨b, 4, none⟩) (Or.inl (Or.inl rfl)) _).setCell (p := ⟨b, 5, none⟩) (Or.inl (Or.inl rfl)) _).alloc _

set_option maxHeartbeats 400000 in
theorem begin_calls (h : RS base w b st tA tc wA wc) (c : Int) (hn : st.words.length ≤ 1099511627776) :
    Calls Tryd.prog 57 #[.pointer (some ⟨b, 0, none⟩), .int .i32 c] w fun e' w' => e' = .returned (.tuple #[]) ∧ RSK base w w' b (st.begin c) := by
  have q := h.cells
  obtain ⟨c0, c1, c2, c3, c4, c5, _⟩ := q
  have f2 := h.free 2
  have f3 := h.free 3
  have f4 := h.free 4
  have f5 := h.free 5
  have hlt := h.lt
  have H1 := begin1 h c
  clear h
  go_enter Tryd.func57, Tryd.ntmps57
  go_wp2_with fail
  obtain ⟨W, hW⟩ : ∃ W, W = ((((w.setCell ⟨b, 3, none⟩ (.int .i64 st.line)).setCell ⟨b, 4, none⟩ (.int .i64 st.col)).setCell ⟨b, 5, none⟩ (.slice (some ⟨w.heap.size, 0, none⟩) 1 1)).alloc (.cells #[.int .i32 c] 21)) := ⟨_, rfl⟩
  rw [← hW] at H1 ⊢
  clear hW
  obtain ⟨h1, hk⟩ := H1
  have c2' := h1.cells.2.2.1
  have c0' := h1.cells.1
  have c1' := h1.cells.2.1
  have f2' := h1.free 2
  have H := Lib.hid h1
  have Hk := Lib.hid hk
  have hs : (st.fresh c).words = st.words := rfl
  clear h1 hk c0 c1 c2 c3 c4 c5 f2 f3 f4 f5 hlt
  cases e1 : letterB c with
  | true =>
    have hl := Lib.hid (Letter_t c W e1)
    have e2 : st.begin c = { st.fresh c with state := 2 } := by simp [Rd.begin, e1]
    have Fin := Lib.hid (show RSK base w (W.setCell ⟨b, 2, none⟩ (.int .i64 2)) b (st.begin c) from by
      rw [e2]
      exact ⟨⟨_, _, _, _, H.out.set 2 (.int .i64 2) { st.fresh c with state := 2 } rfl rfl rfl⟩, Hk.out.setCell (p := ⟨b, 2, none⟩) (Or.inl (Or.inl rfl)) _⟩)
    clear e1 e2
    go_wp2_with (first | (go_at_call 58; refine hl.out.mono ?_; rintro e w' ⟨rfl, rfl⟩))
    go_end0
    exact ⟨rfl, Fin.out⟩
  | false =>
    have hl := Lib.hid (Letter_f c W e1)
    cases e2 : digitB c with
    | true =>
      have hd := Lib.hid (digit_t c W e2)
      have e3 : st.begin c = { st.fresh c with state := 4 } := by simp [Rd.begin, e1, e2]
      have Fin := Lib.hid (show RSK base w (W.setCell ⟨b, 2, none⟩ (.int .i64 4)) b (st.begin c) from by
        rw [e3]
        exact ⟨⟨_, _, _, _, H.out.set 2 (.int .i64 4) { st.fresh c with state := 4 } rfl rfl rfl⟩, Hk.out.setCell (p := ⟨b, 2, none⟩) (Or.inl (Or.inl rfl)) _⟩)
      clear e1 e2 e3
      go_wp2_with (first | (go_at_call 58; refine hl.out.mono ?_; rintro e w' ⟨rfl, rfl⟩) | (go_at_call 59; refine hd.out.mono ?_; rintro e w' ⟨rfl, rfl⟩))
      go_end0
      exact ⟨rfl, Fin.out⟩
    | false =>
      have hd := Lib.hid (digit_f c W e2)
      by_cases e3 : c = 45
      · have e4 : st.begin c = { st.fresh c with state := 3 } := by unfold Rd.begin; rw [if_neg (by rw [e1]; decide), if_neg (by rw [e2]; decide), if_pos e3]
        have Fin := Lib.hid (show RSK base w (W.setCell ⟨b, 2, none⟩ (.int .i64 3)) b (st.begin c) from by
          rw [e4]
          exact ⟨⟨_, _, _, _, H.out.set 2 (.int .i64 3) { st.fresh c with state := 3 } rfl rfl rfl⟩, Hk.out.setCell (p := ⟨b, 2, none⟩) (Or.inl (Or.inl rfl)) _⟩)
        have b3 : (c == 45) = true := by simpa using e3
        clear e1 e2 e3 e4
        go_wp2_with (first | (go_at_call 58; refine hl.out.mono ?_; rintro e w' ⟨rfl, rfl⟩) | (go_at_call 59; refine hd.out.mono ?_; rintro e w' ⟨rfl, rfl⟩))
        go_end0
        exact ⟨rfl, Fin.out⟩
      · have b3 : (c == 45) = false := by simpa using e3
        by_cases e4 : c = 59
        · have e5 : st.begin c = { st.fresh c with state := 1 } := by unfold Rd.begin; rw [if_neg (by rw [e1]; decide), if_neg (by rw [e2]; decide), if_neg e3, if_pos e4]
          have Fin := Lib.hid (show RSK base w (W.setCell ⟨b, 2, none⟩ (.int .i64 1)) b (st.begin c) from by
            rw [e5]
            exact ⟨⟨_, _, _, _, H.out.set 2 (.int .i64 1) { st.fresh c with state := 1 } rfl rfl rfl⟩, Hk.out.setCell (p := ⟨b, 2, none⟩) (Or.inl (Or.inl rfl)) _⟩)
          have b4 : (c == 59) = true := by simpa using e4
          clear e1 e2 e3 e4 e5
          go_wp2_with (first | (go_at_call 58; refine hl.out.mono ?_; rintro e w' ⟨rfl, rfl⟩) | (go_at_call 59; refine hd.out.mono ?_; rintro e w' ⟨rfl, rfl⟩))
          go_end0
          exact ⟨rfl, Fin.out⟩
        · have b4 : (c == 59) = false := by simpa using e4
          by_cases e5 : c = 10
          · have e6 : st.begin c = (st.fresh c).put 4 ⟨#[]⟩ 0 := by unfold Rd.begin; rw [if_neg (by rw [e1]; decide), if_neg (by rw [e2]; decide), if_neg e3, if_neg e4, if_pos e5]
            have Hp := Lib.hid (put_word H.out 4 ⟨#[]⟩ 0 hn)
            rw [← e6] at Hp
            have b5 : (c == 10) = true := by simpa using e5
            clear e1 e2 e3 e4 e5 e6
            go_wp2_with (first | (go_at_call 58; refine hl.out.mono ?_; rintro e w' ⟨rfl, rfl⟩) | (go_at_call 59; refine hd.out.mono ?_; rintro e w' ⟨rfl, rfl⟩) | (go_at_call 55; refine Hp.out.mono ?_; rintro e w1 ⟨rfl, h10⟩; have h1 := Lib.hid h10; clear h10))
            go_end0
            exact ⟨rfl, h1.out.1, Hk.out.trans h1.out.2⟩
          · have b5 : (c == 10) = false := by simpa using e5
            cases e6 : signB c with
            | true =>
              have hg := Lib.hid (Sign_t c W e6)
              have e7 : st.begin c = (st.fresh c).put 3 (Utf8.encode c) 0 := by unfold Rd.begin; rw [if_neg (by rw [e1]; decide), if_neg (by rw [e2]; decide), if_neg e3, if_neg e4, if_neg e5, if_pos e6]
              have Hp := Lib.hid (put_word H.out 3 (Utf8.encode c) 0 hn)
              rw [← e7] at Hp
              clear e1 e2 e3 e4 e5 e6 e7
              go_wp2_with (first | (go_at_call 58; refine hl.out.mono ?_; rintro e w' ⟨rfl, rfl⟩) | (go_at_call 59; refine hd.out.mono ?_; rintro e w' ⟨rfl, rfl⟩) | (go_at_call 71; refine hg.out.mono ?_; rintro e w' ⟨rfl, rfl⟩) | (go_at_call 55; refine Hp.out.mono ?_; rintro e w1 ⟨rfl, h10⟩; have h1 := Lib.hid h10; clear h10))
              go_end0
              exact ⟨rfl, h1.out.1, Hk.out.trans h1.out.2⟩
            | false =>
              have hg := Lib.hid (Sign_f c W e6)
              by_cases e7 : c = 32
              · have e9 : st.begin c = st.fresh c := by unfold Rd.begin; rw [if_neg (by rw [e1]; decide), if_neg (by rw [e2]; decide), if_neg e3, if_neg e4, if_neg e5, if_neg (by rw [e6]; decide), if_neg (fun q => q.1 e7)]
                have Fin := Lib.hid (show RSK base w W b (st.begin c) from by
                  rw [e9]
                  exact ⟨⟨_, _, _, _, H.out⟩, Hk.out⟩)
                have b7 : (c != 32) = false := by simpa using e7
                clear e1 e2 e3 e4 e5 e6 e7 e9
                go_wp2_with (first | (go_at_call 58; refine hl.out.mono ?_; rintro e w' ⟨rfl, rfl⟩) | (go_at_call 59; refine hd.out.mono ?_; rintro e w' ⟨rfl, rfl⟩) | (go_at_call 71; refine hg.out.mono ?_; rintro e w' ⟨rfl, rfl⟩))
                go_end0
                exact ⟨rfl, Fin.out⟩
              · have b7 : (c != 32) = true := by simpa using e7
                by_cases e8 : c = 9
                · have e9 : st.begin c = st.fresh c := by unfold Rd.begin; rw [if_neg (by rw [e1]; decide), if_neg (by rw [e2]; decide), if_neg e3, if_neg e4, if_neg e5, if_neg (by rw [e6]; decide), if_neg (fun q => q.2 e8)]
                  have Fin := Lib.hid (show RSK base w W b (st.begin c) from by
                    rw [e9]
                    exact ⟨⟨_, _, _, _, H.out⟩, Hk.out⟩)
                  have b8 : (c != 9) = false := by simpa using e8
                  clear e1 e2 e3 e4 e5 e6 e7 e8 e9
                  go_wp2_with (first | (go_at_call 58; refine hl.out.mono ?_; rintro e w' ⟨rfl, rfl⟩) | (go_at_call 59; refine hd.out.mono ?_; rintro e w' ⟨rfl, rfl⟩) | (go_at_call 71; refine hg.out.mono ?_; rintro e w' ⟨rfl, rfl⟩))
                  go_end0
                  exact ⟨rfl, Fin.out⟩
                · have b8 : (c != 9) = true := by simpa using e8
                  have e9 : st.begin c = (st.fresh c).fail 6 st.line st.col := by unfold Rd.begin; rw [if_neg (by rw [e1]; decide), if_neg (by rw [e2]; decide), if_neg e3, if_neg e4, if_neg e5, if_neg (by rw [e6]; decide), if_pos ⟨e7, e8⟩]
                  have Hf := Lib.hid (fail_word H.out 6 st.line st.col)
                  rw [← e9] at Hf
                  clear e1 e2 e3 e4 e5 e6 e7 e8 e9
                  go_wp2_with (first | (go_at_call 58; refine hl.out.mono ?_; rintro e w' ⟨rfl, rfl⟩) | (go_at_call 59; refine hd.out.mono ?_; rintro e w' ⟨rfl, rfl⟩) | (go_at_call 71; refine hg.out.mono ?_; rintro e w' ⟨rfl, rfl⟩) | (go_at_call 26; refine Hf.out.mono ?_; rintro e w1 ⟨rfl, h10⟩; have h1 := Lib.hid h10; clear h10))
                  go_end0
                  exact ⟨rfl, ⟨_, _, _, _, h1.out.1⟩, Hk.out.trans h1.out.2⟩

end
end Go.Proofs.YtoibcaoaljglbaaDoor
