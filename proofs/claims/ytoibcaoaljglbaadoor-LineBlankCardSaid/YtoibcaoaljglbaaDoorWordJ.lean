/-
  The walk of word.Read.
-/
import Derived.Test.YtoibcaoaljglbaaDoorWordI
namespace Go.Proofs.YtoibcaoaljglbaaDoor
open Go Go.RowKit

/-- what a call of word.Read leaves -/
def ReadPost (s : ByteArray) (w : World) (e : Ending) (w' : World) : Prop :=
  ∃ wA wc, e = .returned (.tuple #[.slice wA (wordRead s).1.length wc, .int .i64 (wordRead s).2.1, .int .i64 (wordRead s).2.2.1, .int .i64 (wordRead s).2.2.2]) ∧
    w'.ownsRow w.heap.size 33 5 (.slice wA (wordRead s).1.length wc) (wordRead s).1.length (wcells (wordRead s).1) ∧ Keeps (fun _ => False) w w'

theorem readPost_ok {s : ByteArray} {w w1 w' : World} {tA wA : Option Addr} {tc wc : Nat} (h : (rdAll s).wrong = 0) (hr : RS (w.heap.size + 2) w' w.heap.size (rdAll s) tA tc wA wc)
    (hk : Keeps (fun _ => False) w w1) (hk2 : Keeps (fun k => k = w.heap.size ∨ w.heap.size + 2 ≤ k) w1 w') :
    ReadPost s w (.returned (.tuple #[.slice wA (rdAll s).words.length wc, .int .i64 0, .int .i64 0, .int .i64 0])) w' := by
  have e : wordRead s = ((rdAll s).words, 0, 0, 0) := by unfold wordRead; rw [if_pos h]
  refine ⟨wA, wc, by rw [e], ?_, hk.trans' hk2 (by omega)⟩
  rw [e]
  exact own_mono hr.words (by omega)

theorem readPost_bad {s : ByteArray} {w w1 w' : World} (h : (rdAll s).wrong ≠ 0) (hk : Keeps (fun _ => False) w w1) (hk2 : Keeps (fun k => k = w.heap.size ∨ w.heap.size + 2 ≤ k) w1 w') :
    ReadPost s w (.returned (.tuple #[.slice none 0 0, .int .i64 (rdAll s).al, .int .i64 (rdAll s).ac, .int .i64 (rdAll s).wrong])) w' := by
  have e : wordRead s = ([], (rdAll s).al, (rdAll s).ac, (rdAll s).wrong) := by unfold wordRead; rw [if_neg h]
  refine ⟨none, 0, by rw [e]; rfl, ?_, hk.trans' hk2 (by omega)⟩
  rw [e]
  exact World.ownsRow_nil _ _ _ _

theorem decode_four (s : ByteArray) (k : Nat) : (Utf8.decode s k).2 ≤ 4 := by
  unfold Utf8.decode
  simp only
  repeat' split
  all_goals simp

theorem rdLoop_go {s : ByteArray} {f k : Nat} {st : Rd} (hk : k < s.size) (hw : (st.look (badRune s k (Utf8.decode s k).1)).wrong = 0) :
    rdLoop s (f + 1) k st = rdLoop s f (k + (Utf8.decode s k).2) ((st.look (badRune s k (Utf8.decode s k).1)).go (Utf8.decode s k).1) := by
  rw [rdLoop, if_pos hk, if_pos hw]

theorem rdLoop_stop {s : ByteArray} {f k : Nat} {st : Rd} (hk : k < s.size) (hw : (st.look (badRune s k (Utf8.decode s k).1)).wrong ≠ 0) :
    rdLoop s (f + 1) k st = st.look (badRune s k (Utf8.decode s k).1) := by
  rw [rdLoop, if_pos hk, if_neg hw]

theorem rdLoop_end {s : ByteArray} {f k : Nat} {st : Rd} (hk : ¬ k < s.size) : rdLoop s f k st = st := by
  cases f with
  | zero => rfl
  | succ f => rw [rdLoop, if_neg hk]

/-- the loop's relation, without the slots -/
def RdRel (s : ByteArray) (w wr : World) : Prop := ∃ k f st, k ≤ s.size + 4 ∧ s.size < k + f ∧ RdAt s w wr k st ∧ rdLoop s (s.size + 1) 0 Rd.init = rdLoop s f k st

theorem rdRel_start (s : ByteArray) (w : World) (hG : Glob w) :
    RdRel s w ((w.alloc (.cells #[.int .i64 1, .int .i64 1, .int .i64 0, .int .i64 0, .int .i64 0, .slice none 0 0, .bool false, .slice none 0 0, .int .i64 0, .int .i64 0, .int .i64 0] 57)).iter s 0) := by
  refine ⟨0, s.size + 1, Rd.init, by omega, by omega, ⟨?_, ⟨none, 0, none, 0, ?_⟩, ?_, ?_, init_fits⟩, rfl⟩
  · have := World.iter_heap (w.alloc (.cells #[.int .i64 1, .int .i64 1, .int .i64 0, .int .i64 0, .int .i64 0, .slice none 0 0, .bool false, .slice none 0 0, .int .i64 0, .int .i64 0, .int .i64 0] 57)) s 0
    simpa using this
  · refine ⟨blk_alloc (blk_new w _) _, World.ownsRow_nil _ _ _ _, World.ownsRow_nil _ _ _ _, ?_⟩
    simp [World.iter]
  · exact ((Keeps.refl _ _).alloc _).alloc _
  · exact hG.keeps (S := fun _ => False) (((Keeps.refl _ _).alloc _).alloc _) (by simp)

theorem hasPrefix_calls (s p : ByteArray) (w : World) : Calls Tryd.prog 24 #[.string s, .string p] w fun e w' => e = .returned (.bool (Lib.hasPrefix s.data.toList p.data.toList)) ∧ w = w' := by
  refine (Tryd.strings_HasPrefix s p w).mono ?_
  rintro e w' ⟨h1, h2⟩
  exact ⟨h1, h2.symm⟩

/-- close, then fail where the reader stands -/
theorem look_chain {base b : Nat} {st : Rd} {w : World} {tA wA : Option Addr} {tc wc : Nat} (hG : Glob w) (hb : 4 ≤ b) (hbase : 4 ≤ base) (h : RS base w b st tA tc wA wc) (hn : st.words.length + 2 ≤ 1099511627776) (ht : st.text.length ≤ 1099511627776) :
    Calls Tryd.prog 25 #[.pointer (some ⟨b, 0, none⟩)] w fun e' w1 => e' = .returned (.tuple #[]) ∧ (w1.cell? ⟨b, 0, none⟩ = some (.int .i64 st.line) ∧ w1.cell? ⟨b, 1, none⟩ = some (.int .i64 st.col)) ∧
      Calls Tryd.prog 26 #[.pointer (some ⟨b, 0, none⟩), .int .i64 6, .agg #[.int .i64 st.line, .int .i64 st.col]] w1 fun e' w2 => e' = .returned (.tuple #[]) ∧ RSK base w w2 b (st.look true) ∧ Glob w2 := by
  refine (close_calls Atoi_holds hG h (by omega) ht).mono ?_
  rintro e w1 ⟨rfl, ⟨tA2, tc2, wA2, wc2, h1⟩, hk⟩
  obtain ⟨c1, c2⟩ := close_line st
  have q0 := h1.cells.1
  have q1 := h1.cells.2.1
  rw [c1] at q0
  rw [c2] at q1
  refine ⟨rfl, ⟨q0, q1⟩, ?_⟩
  refine (fail_word h1 6 st.line st.col).mono ?_
  rintro e w2 ⟨rfl, h2, hk2⟩
  exact ⟨rfl, ⟨⟨_, _, _, _, h2⟩, hk.trans hk2⟩, glob_rd hG (hk.trans hk2) hb hbase⟩

set_option maxRecDepth 100000 in
set_option maxHeartbeats 4000000 in
theorem read_calls (s : ByteArray) (w : World) (hs : s.size ≤ 1000000000) (hG : Glob w) (h8 : 4 ≤ w.heap.size) :
    Calls Tryd.prog 8 #[.string s] w (ReadPost s w) := by
  have Hst := Lib.hid (rdRel_start s w hG)
  have H8 := Lib.hid h8
  clear hG h8
  go_enter Tryd.func8, Tryd.ntmps8
  go_wp2
  go_loopw [7] (fun _ wr => Hid (RdRel s w wr)) (fun _ wr => s.size - wr.iterPos (w.heap.size + 1))
  case atStart => exact Hst
  case round =>
    obtain ⟨k, f, st, hk4, hf, hat, heq⟩ := hrel.out
    clear hrel Hst
    obtain ⟨tA, tc, wA, wc, hrs⟩ := hat.rs
    have hip := Lib.hid (iterPos_of hat.iter)
    have HA := Lib.hid hat
    have hwf := hat.fits
    obtain ⟨fw, ft, fl0, fl1, fc0, fc1⟩ := hwf
    by_cases hk : k < s.size
    · have hnx := fun ty => Lib.run_next_any_at (P := Tryd.prog) wr (w.heap.size + 1) s k ty hat.iter hk
      have hpos := decode_pos s k
      have hn4 := decode_four s k
      have hr2 := Lib.hid (hrs.iterAt hat.iter (k + (Utf8.decode s k).2))
      have hg2 := Lib.hid (hat.glob.keeps (S := fun k => 4 ≤ k) ((Keeps.refl _ _).iterAt (k := w.heap.size + 1) (Or.inl (by have := H8.out; omega)) s (k + (Utf8.decode s k).2)) (by omega))
      have hk2 := Lib.hid (hat.keep.iterAt (k := w.heap.size + 1) (Or.inr (by omega)) s (k + (Utf8.decode s k).2))
      have hstep := Lib.hid (fun w' st' (q : RSK (w.heap.size + 2) (wr.iterAt (w.heap.size + 1) s (k + (Utf8.decode s k).2)) w' w.heap.size st') (hf : st'.Fits (k + (Utf8.decode s k).2)) => hat.step q hf H8.out)
      have hgo := Lib.hid (fun (h : (st.look (badRune s k (Utf8.decode s k).1)).wrong = 0) => heq.trans (by obtain ⟨f', rfl⟩ : ∃ f', f = f' + 1 := ⟨f - 1, by omega⟩; exact rdLoop_go hk h : _ = rdLoop s (f - 1) (k + (Utf8.decode s k).2) ((st.look (badRune s k (Utf8.decode s k).1)).go (Utf8.decode s k).1)))
      have hstop := Lib.hid (fun (h : (st.look (badRune s k (Utf8.decode s k).1)).wrong ≠ 0) => heq.trans (by obtain ⟨f', rfl⟩ : ∃ f', f = f' + 1 := ⟨f - 1, by omega⟩; exact rdLoop_stop hk h : _ = st.look (badRune s k (Utf8.decode s k).1)))
      clear hrs hat heq
      generalize hW : wr.iterAt (w.heap.size + 1) s (k + (Utf8.decode s k).2) = W at *
      generalize (Utf8.decode s k).2 = n at *
      generalize (((Utf8.decode s k).1 : Nat) : Int) = r at *
      clear hW
      cases hbad : badRune s k r with
      | true =>
        have hb2 : (r == 65533) = true ∧ (!(Lib.hasPrefix (s.extract k s.size).data.toList [239, 191, 189])) = true := Bool.and_eq_true_iff.1 hbad
        obtain ⟨b0, b00⟩ := hb2
        have hpre := Lib.hid (hasPrefix_calls (s.extract k s.size) ⟨#[239, 191, 189]⟩ W)
        have b000 : Lib.hasPrefix (s.extract k s.size).data.toList [239, 191, 189] = false := by simpa using b00
        have e0 : (⟨#[239, 191, 189]⟩ : ByteArray).data.toList = [239, 191, 189] := rfl
        rw [e0, b000] at hpre
        have hch := Lib.hid (look_chain hg2.out H8.out (Nat.le_trans H8.out (Nat.le_add_right _ 2)) hr2.out (by omega) (by omega))
        have b1 : ((st.look true).wrong != 0) = true := by simpa using look_bad st
        have HE := Lib.hid (show rdAll s = (st.look true).close from by unfold rdAll; rw [hstop.out (by rw [hbad]; exact look_bad st), hbad])
        have hnf := Lib.hid (show (st.look true).words.length ≤ 1099511627776 from by
          have h1 := close_words st
          have h2 : (st.look true).words = st.close.words := fail_words _ _ _ _
          rw [h2]; omega)
        have htf := Lib.hid (show (st.look true).text.length ≤ 1099511627776 from by
          have h2 : (st.look true).text = [] := (fail_fields _ _ _ _).2.2.2
          rw [h2]; simp)
        clear hgo hstop hbad b00 b000 e0
        have hks : k ≤ s.size := Nat.le_of_lt hk
        by_cases hfin : (rdAll s).wrong = 0
        · have b8 : ((rdAll s).wrong != 0) = false := by simpa using hfin
          have HF := Lib.hid hfin
          clear hfin
          go_wp2_with (first | (go_at_call 24; refine hpre.out.mono ?_; rintro e w' ⟨rfl, rfl⟩) | (go_at_call 25; refine hch.out.mono ?_; rintro e w1 ⟨rfl, ⟨q0, q1⟩, h10⟩; have H1 := Lib.hid h10; clear h10 hch) | (go_at_call 26; refine H1.out.mono ?_; rintro e w2 ⟨rfl, ⟨⟨tA2, tc2, wA2, wc2, h20⟩, k20⟩, g20⟩; have q8 := h20.cells.2.2.2.2.2.2.2.1; have HRf := Lib.hid h20; have HGf := Lib.hid g20; have HKf := Lib.hid (hk2.out.trans' k20 (by omega)); clear h20 k20 g20 H1)| (go_at_call 25; refine (close_calls Atoi_holds HGf.out HRf.out hnf.out htf.out).mono ?_; rintro e w9 ⟨rfl, ⟨tA9, tc9, wA9, wc9, h9⟩, k90⟩; rw [← HE.out] at h9; have c7 := h9.cells.2.2.2.2.2.2.1; have c8 := h9.cells.2.2.2.2.2.2.2.1; have c9 := h9.cells.2.2.2.2.2.2.2.2.1; have c10 := h9.cells.2.2.2.2.2.2.2.2.2; have H9 := Lib.hid h9; have K9 := Lib.hid k90; clear h9 k90))
          exact bodyPost_ret (v := .tuple #[.slice wA9 (rdAll s).words.length wc9, .int .i64 0, .int .i64 0, .int .i64 0]) (by simp [results, Tryd.results8, go_sem]) rfl (readPost_ok HF.out H9.out HKf.out K9.out)
        · have b8 : ((rdAll s).wrong != 0) = true := by simpa using hfin
          have HF := Lib.hid hfin
          clear hfin
          go_wp2_with (first | (go_at_call 24; refine hpre.out.mono ?_; rintro e w' ⟨rfl, rfl⟩) | (go_at_call 25; refine hch.out.mono ?_; rintro e w1 ⟨rfl, ⟨q0, q1⟩, h10⟩; have H1 := Lib.hid h10; clear h10 hch) | (go_at_call 26; refine H1.out.mono ?_; rintro e w2 ⟨rfl, ⟨⟨tA2, tc2, wA2, wc2, h20⟩, k20⟩, g20⟩; have q8 := h20.cells.2.2.2.2.2.2.2.1; have HRf := Lib.hid h20; have HGf := Lib.hid g20; have HKf := Lib.hid (hk2.out.trans' k20 (by omega)); clear h20 k20 g20 H1)| (go_at_call 25; refine (close_calls Atoi_holds HGf.out HRf.out hnf.out htf.out).mono ?_; rintro e w9 ⟨rfl, ⟨tA9, tc9, wA9, wc9, h9⟩, k90⟩; rw [← HE.out] at h9; have c7 := h9.cells.2.2.2.2.2.2.1; have c8 := h9.cells.2.2.2.2.2.2.2.1; have c9 := h9.cells.2.2.2.2.2.2.2.2.1; have c10 := h9.cells.2.2.2.2.2.2.2.2.2; have H9 := Lib.hid h9; have K9 := Lib.hid k90; clear h9 k90))
          go_quiet (fail)
          go_wp2
          exact bodyPost_ret (v := .tuple #[.slice none 0 0, .int .i64 (rdAll s).al, .int .i64 (rdAll s).ac, .int .i64 (rdAll s).wrong]) (by simp [results, Tryd.results8, go_sem]) rfl (readPost_bad HF.out HKf.out (K9.out.drewN _))
      | false =>
        by_cases hr : r = 65533
        · have b0 : (r == 65533) = true := by simpa using hr
          have hpre := Lib.hid (hasPrefix_calls (s.extract k s.size) ⟨#[239, 191, 189]⟩ W)
          have b000 : Lib.hasPrefix (s.extract k s.size).data.toList [239, 191, 189] = true := by
            have := hbad
            unfold badRune at this
            rw [b0] at this
            simpa using this
          have e0 : (⟨#[239, 191, 189]⟩ : ByteArray).data.toList = [239, 191, 189] := rfl
          rw [e0, b000] at hpre
          have hks : k ≤ s.size := Nat.le_of_lt hk
          clear hr b000 e0
          skip
          · -- the next rune is taken
            have hlook : st.look (badRune s k r) = st := by rw [hbad]; rfl
            by_cases hw0 : st.wrong = 0
            · have b1 : (st.wrong != 0) = false := by simpa using hw0
              have hr8 := hr2.out.cells.2.2.2.2.2.2.2.1
              have htk := Lib.hid (take_calls hg2.out H8.out (Nat.le_trans H8.out (Nat.le_add_right _ 2)) hr2.out r (by omega) (by omega))
              obtain ⟨tl1, tl2, _, _⟩ := take_fields st r
              have hol := Lib.hid (show 0 ≤ (st.take r).line ∧ (st.take r).line ≤ 4611686018427387904 from by rw [tl1]; omega)
              have hoc := Lib.hid (show 0 ≤ (st.take r).col ∧ (st.take r).col ≤ 4611686018427387904 from by rw [tl2]; omega)
              have hfit := go_fits HA.out.fits hpos r
              have Hrel := Lib.hid (fun w' q => (⟨k + n, f - 1, st.go r, by omega, by omega, hstep.out w' (st.go r) q hfit, by rw [hgo.out (by rw [hlook]; exact hw0), hlook]⟩ : RdRel s w w'))
              clear hw0 hlook tl1 tl2 hfit hstop hbad
              go_wp2_with (first | (go_at_call 24; refine hpre.out.mono ?_; rintro e w' ⟨rfl, rfl⟩)| (go_at_call 27; refine htk.out.mono ?_; rintro e w1 ⟨rfl, ⟨⟨tA1, tc1, wA1, wc1, h10⟩, k10⟩⟩; have H1 := Lib.hid h10; have K1 := Lib.hid k10; clear h10 k10) | (go_at_call 28; refine (over_spot H1.out r (hol.out) (hoc.out)).mono ?_; rintro e w2 ⟨rfl, h20, k20⟩; have H2 := Lib.hid h20; have K2 := Lib.hid (K1.out.trans k20); clear h20 k20))
              go_roundw
              case rel => exact Lib.hid (Hrel.out _ ⟨⟨_, _, _, _, H2.out⟩, K2.out⟩)
              case measure =>
                have hit : w2.heap[w.heap.size + 1]? = some (.stringIter s (k + n)) := (hstep.out w2 (st.go r) ⟨⟨_, _, _, _, H2.out⟩, K2.out⟩ (go_fits HA.out.fits hpos r)).iter
                have hip2 := iterPos_of hit
                have hip1 := hip.out
                rw [hip2, hip1]
                omega
            · have b1 : (st.wrong != 0) = true := by simpa using hw0
              have hr8 := hr2.out.cells.2.2.2.2.2.2.2.1
              have HE := Lib.hid (show rdAll s = st.close from by unfold rdAll; rw [hstop.out (by rw [hlook]; exact hw0), hlook])
              have HRf := hr2
              have HGf := hg2
              have HKf := hk2
              have hnf := Lib.hid (show st.words.length ≤ 1099511627776 from by omega)
              have htf := Lib.hid (show st.text.length ≤ 1099511627776 from by omega)
              clear hw0 hlook hgo hstop hbad
              by_cases hfin : (rdAll s).wrong = 0
              · have b8 : ((rdAll s).wrong != 0) = false := by simpa using hfin
                have HF := Lib.hid hfin
                clear hfin
                go_wp2_with (first | (go_at_call 24; refine hpre.out.mono ?_; rintro e w' ⟨rfl, rfl⟩)| (go_at_call 25; refine (close_calls Atoi_holds HGf.out HRf.out hnf.out htf.out).mono ?_; rintro e w9 ⟨rfl, ⟨tA9, tc9, wA9, wc9, h9⟩, k90⟩; rw [← HE.out] at h9; have c7 := h9.cells.2.2.2.2.2.2.1; have c8 := h9.cells.2.2.2.2.2.2.2.1; have c9 := h9.cells.2.2.2.2.2.2.2.2.1; have c10 := h9.cells.2.2.2.2.2.2.2.2.2; have H9 := Lib.hid h9; have K9 := Lib.hid k90; clear h9 k90))
                exact bodyPost_ret (v := .tuple #[.slice wA9 (rdAll s).words.length wc9, .int .i64 0, .int .i64 0, .int .i64 0]) (by simp [results, Tryd.results8, go_sem]) rfl (readPost_ok HF.out H9.out HKf.out K9.out)
              · have b8 : ((rdAll s).wrong != 0) = true := by simpa using hfin
                have HF := Lib.hid hfin
                clear hfin
                go_wp2_with (first | (go_at_call 24; refine hpre.out.mono ?_; rintro e w' ⟨rfl, rfl⟩)| (go_at_call 25; refine (close_calls Atoi_holds HGf.out HRf.out hnf.out htf.out).mono ?_; rintro e w9 ⟨rfl, ⟨tA9, tc9, wA9, wc9, h9⟩, k90⟩; rw [← HE.out] at h9; have c7 := h9.cells.2.2.2.2.2.2.1; have c8 := h9.cells.2.2.2.2.2.2.2.1; have c9 := h9.cells.2.2.2.2.2.2.2.2.1; have c10 := h9.cells.2.2.2.2.2.2.2.2.2; have H9 := Lib.hid h9; have K9 := Lib.hid k90; clear h9 k90))
                go_quiet (fail)
                go_wp2
                exact bodyPost_ret (v := .tuple #[.slice none 0 0, .int .i64 (rdAll s).al, .int .i64 (rdAll s).ac, .int .i64 (rdAll s).wrong]) (by simp [results, Tryd.results8, go_sem]) rfl (readPost_bad HF.out HKf.out (K9.out.drewN _))
        · have b0 : (r == 65533) = false := by simpa using hr
          clear hr
          skip
          · -- the next rune is taken
            have hlook : st.look (badRune s k r) = st := by rw [hbad]; rfl
            by_cases hw0 : st.wrong = 0
            · have b1 : (st.wrong != 0) = false := by simpa using hw0
              have hr8 := hr2.out.cells.2.2.2.2.2.2.2.1
              have htk := Lib.hid (take_calls hg2.out H8.out (Nat.le_trans H8.out (Nat.le_add_right _ 2)) hr2.out r (by omega) (by omega))
              obtain ⟨tl1, tl2, _, _⟩ := take_fields st r
              have hol := Lib.hid (show 0 ≤ (st.take r).line ∧ (st.take r).line ≤ 4611686018427387904 from by rw [tl1]; omega)
              have hoc := Lib.hid (show 0 ≤ (st.take r).col ∧ (st.take r).col ≤ 4611686018427387904 from by rw [tl2]; omega)
              have hfit := go_fits HA.out.fits hpos r
              have Hrel := Lib.hid (fun w' q => (⟨k + n, f - 1, st.go r, by omega, by omega, hstep.out w' (st.go r) q hfit, by rw [hgo.out (by rw [hlook]; exact hw0), hlook]⟩ : RdRel s w w'))
              clear hw0 hlook tl1 tl2 hfit hstop hbad
              go_wp2_with (first | (go_at_call 27; refine htk.out.mono ?_; rintro e w1 ⟨rfl, ⟨⟨tA1, tc1, wA1, wc1, h10⟩, k10⟩⟩; have H1 := Lib.hid h10; have K1 := Lib.hid k10; clear h10 k10) | (go_at_call 28; refine (over_spot H1.out r (hol.out) (hoc.out)).mono ?_; rintro e w2 ⟨rfl, h20, k20⟩; have H2 := Lib.hid h20; have K2 := Lib.hid (K1.out.trans k20); clear h20 k20))
              go_roundw
              case rel => exact Lib.hid (Hrel.out _ ⟨⟨_, _, _, _, H2.out⟩, K2.out⟩)
              case measure =>
                have hit : w2.heap[w.heap.size + 1]? = some (.stringIter s (k + n)) := (hstep.out w2 (st.go r) ⟨⟨_, _, _, _, H2.out⟩, K2.out⟩ (go_fits HA.out.fits hpos r)).iter
                have hip2 := iterPos_of hit
                have hip1 := hip.out
                rw [hip2, hip1]
                omega
            · have b1 : (st.wrong != 0) = true := by simpa using hw0
              have hr8 := hr2.out.cells.2.2.2.2.2.2.2.1
              have HE := Lib.hid (show rdAll s = st.close from by unfold rdAll; rw [hstop.out (by rw [hlook]; exact hw0), hlook])
              have HRf := hr2
              have HGf := hg2
              have HKf := hk2
              have hnf := Lib.hid (show st.words.length ≤ 1099511627776 from by omega)
              have htf := Lib.hid (show st.text.length ≤ 1099511627776 from by omega)
              clear hw0 hlook hgo hstop hbad
              by_cases hfin : (rdAll s).wrong = 0
              · have b8 : ((rdAll s).wrong != 0) = false := by simpa using hfin
                have HF := Lib.hid hfin
                clear hfin
                go_wp2_with (first | (go_at_call 25; refine (close_calls Atoi_holds HGf.out HRf.out hnf.out htf.out).mono ?_; rintro e w9 ⟨rfl, ⟨tA9, tc9, wA9, wc9, h9⟩, k90⟩; rw [← HE.out] at h9; have c7 := h9.cells.2.2.2.2.2.2.1; have c8 := h9.cells.2.2.2.2.2.2.2.1; have c9 := h9.cells.2.2.2.2.2.2.2.2.1; have c10 := h9.cells.2.2.2.2.2.2.2.2.2; have H9 := Lib.hid h9; have K9 := Lib.hid k90; clear h9 k90))
                exact bodyPost_ret (v := .tuple #[.slice wA9 (rdAll s).words.length wc9, .int .i64 0, .int .i64 0, .int .i64 0]) (by simp [results, Tryd.results8, go_sem]) rfl (readPost_ok HF.out H9.out HKf.out K9.out)
              · have b8 : ((rdAll s).wrong != 0) = true := by simpa using hfin
                have HF := Lib.hid hfin
                clear hfin
                go_wp2_with (first | (go_at_call 25; refine (close_calls Atoi_holds HGf.out HRf.out hnf.out htf.out).mono ?_; rintro e w9 ⟨rfl, ⟨tA9, tc9, wA9, wc9, h9⟩, k90⟩; rw [← HE.out] at h9; have c7 := h9.cells.2.2.2.2.2.2.1; have c8 := h9.cells.2.2.2.2.2.2.2.1; have c9 := h9.cells.2.2.2.2.2.2.2.2.1; have c10 := h9.cells.2.2.2.2.2.2.2.2.2; have H9 := Lib.hid h9; have K9 := Lib.hid k90; clear h9 k90))
                go_quiet (fail)
                go_wp2
                exact bodyPost_ret (v := .tuple #[.slice none 0 0, .int .i64 (rdAll s).al, .int .i64 (rdAll s).ac, .int .i64 (rdAll s).wrong]) (by simp [results, Tryd.results8, go_sem]) rfl (readPost_bad HF.out HKf.out (K9.out.drewN _))
    · have hnx := fun ty => Lib.run_next_end_at (P := Tryd.prog) wr (w.heap.size + 1) s k ty hat.iter hk
      have HE := Lib.hid (show rdAll s = st.close from by unfold rdAll; rw [heq, rdLoop_end hk])
      have HRf := Lib.hid hrs
      have HGf := Lib.hid hat.glob
      have HKf := Lib.hid hat.keep
      have hnf := Lib.hid (show st.words.length ≤ 1099511627776 from by omega)
      have htf := Lib.hid (show st.text.length ≤ 1099511627776 from by omega)
      clear hrs hat heq
      by_cases hfin : (rdAll s).wrong = 0
      · have b8 : ((rdAll s).wrong != 0) = false := by simpa using hfin
        have HF := Lib.hid hfin
        clear hfin
        go_wp2_with (first | (go_at_call 25; refine (close_calls Atoi_holds HGf.out HRf.out hnf.out htf.out).mono ?_; rintro e w9 ⟨rfl, ⟨tA9, tc9, wA9, wc9, h9⟩, k90⟩; rw [← HE.out] at h9; have c7 := h9.cells.2.2.2.2.2.2.1; have c8 := h9.cells.2.2.2.2.2.2.2.1; have c9 := h9.cells.2.2.2.2.2.2.2.2.1; have c10 := h9.cells.2.2.2.2.2.2.2.2.2; have H9 := Lib.hid h9; have K9 := Lib.hid k90; clear h9 k90))
        exact bodyPost_ret (v := .tuple #[.slice wA9 (rdAll s).words.length wc9, .int .i64 0, .int .i64 0, .int .i64 0]) (by simp [results, Tryd.results8, go_sem]) rfl (readPost_ok HF.out H9.out HKf.out K9.out)
      · have b8 : ((rdAll s).wrong != 0) = true := by simpa using hfin
        have HF := Lib.hid hfin
        clear hfin
        go_wp2_with (first | (go_at_call 25; refine (close_calls Atoi_holds HGf.out HRf.out hnf.out htf.out).mono ?_; rintro e w9 ⟨rfl, ⟨tA9, tc9, wA9, wc9, h9⟩, k90⟩; rw [← HE.out] at h9; have c7 := h9.cells.2.2.2.2.2.2.1; have c8 := h9.cells.2.2.2.2.2.2.2.1; have c9 := h9.cells.2.2.2.2.2.2.2.2.1; have c10 := h9.cells.2.2.2.2.2.2.2.2.2; have H9 := Lib.hid h9; have K9 := Lib.hid k90; clear h9 k90))
        go_quiet (fail)
        go_wp2
        exact bodyPost_ret (v := .tuple #[.slice none 0 0, .int .i64 (rdAll s).al, .int .i64 (rdAll s).ac, .int .i64 (rdAll s).wrong]) (by simp [results, Tryd.results8, go_sem]) rfl (readPost_bad HF.out HKf.out (K9.out.drewN _))

end Go.Proofs.YtoibcaoaljglbaaDoor
