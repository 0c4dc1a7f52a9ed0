/-
  The contract of the reader's close.
-/
import Derived.Test.YtoibcaoaljglbaaDoorWordC
import Derived.Test.YtoibcaoaljglbaaDoorGlob
import Derived.Laws.Cover4
import Derived.Lib.AtoiAll
namespace Go.Proofs.YtoibcaoaljglbaaDoor
open Go Go.RowKit

/-- the number of a text, and whether it is none (or too great for an int) -/
def numOf (s : ByteArray) : Int × Bool := match Lib.atoiAll s.data.toList with
  | .ok v => (v, false)
  | .range => (Lib.atoiSat s.data.toList, true)
  | _ => (0, true)

/-- the contract of strconv.Atoi that the reader leans on -/
def AtoiSaid : Prop := ∀ (s : ByteArray) (w : World), s.size ≤ 281474976710656 → Glob w →
  Calls Tryd.prog 56 #[.string s] w fun e w' => (∃ ev, e = .returned (.tuple #[.int .i64 (numOf s).1, ev]) ∧ ((numOf s).2 = false → ev = .nilIface) ∧ ((numOf s).2 = true → ∃ t p, ev = .iface t (.pointer (some p)))) ∧ Keeps (fun _ => False) w w'

section
variable {base b : Nat} {st : Rd} {w : World} {tA wA : Option Addr} {tc wc : Nat}

theorem RS.conv (h : RS base w b st tA tc wA wc) : (convert 55 9 (.slice tA st.text.length tc)).run Tryd.prog w = .ok (.string (runesBytes st.text)) w := by
  rcases h.text.2 with ⟨hv, h0⟩ | ⟨g, cap, cur, hv, _, hg, hn, _, hs, ht⟩
  · simp only [Value.slice.injEq] at hv
    obtain ⟨a1, a2, a3⟩ := hv
    have : st.text = [] := List.eq_nil_of_length_eq_zero h0
    rw [this] at a2 ⊢
    rw [a1, a3]
    have q := run_convert_runes_nil (P := Tryd.prog) w 55 9 21 0 0 Tryd.underlying55 Tryd.underlying21 Tryd.underlying9
    simp only [List.length_nil, runesBytes, List.foldl_nil]
    rw [q]
  · simp only [Value.slice.injEq] at hv
    obtain ⟨a1, a2, a3⟩ := hv
    rw [a1]
    have q := run_convert_runes (P := Tryd.prog) w 55 9 21 ⟨g, 0, none⟩ st.text.length tc st.text (Nat.le_refl _) Tryd.underlying55 Tryd.underlying21 Tryd.underlying9 (by
      intro j hj
      refine h.text.cells (g := g) (by rw [a1]; rfl) j _ ?_
      simp [runes, List.getD, hj])
    rw [List.take_length] at q
    rw [q]

theorem RS.reset (h : RS base w b st tA tc wA wc) : RSK base w ((w.setCell ⟨b, 5, none⟩ (.slice none 0 0)).setCell ⟨b, 2, none⟩ (.int .i64 0)) b { st with text := [], state := 0 } := by
  refine ⟨⟨none, 0, wA, wc, ?_⟩, ?_⟩
  · have h1 : RS base (w.setCell ⟨b, 5, none⟩ (.slice none 0 0)) b { st with text := [] } none 0 wA wc := by
      refine ⟨blk_set h.blk 5 _, World.ownsRow_nil _ _ _ _, own_set h.words (own_ne h.words h.blk (by decide)) 5 _, by simpa [World.setCell] using h.size⟩
    exact h1.set 2 (.int .i64 0) { st with text := [], state := 0 } rfl rfl rfl
  · exact ((Keeps.refl _ _).setCell (p := ⟨b, 5, none⟩) (Or.inl (Or.inl rfl)) _).setCell (p := ⟨b, 2, none⟩) (Or.inl (Or.inl rfl)) _

def Rd.close1 (st : Rd) : Rd :=
  if st.state = 2 then (if 16 < st.text.length then st.fail 3 st.fl st.fc else st).put 1 (runesBytes st.text) 0
  else if st.state = 4 then (if (numOf (runesBytes st.text)).2 = true ∨ (numOf (runesBytes st.text)).1 < -1099511627776 ∨ 1099511627776 < (numOf (runesBytes st.text)).1 then st.fail 3 st.fl st.fc else st).put 2 (runesBytes st.text) (numOf (runesBytes st.text)).1
  else if st.state = 3 then st.fail 6 st.fl st.fc else st

def Rd.close (st : Rd) : Rd := { st.close1 with text := [], state := 0 }

theorem RSK.trans {base b : Nat} {w0 w1 w2 : World} {st : Rd} (h : Keeps (fun k => k = b ∨ base ≤ k) w0 w1) (k : RSK base w1 w2 b st) : RSK base w0 w2 b st := ⟨k.1, h.trans k.2⟩

theorem fail_words (st : Rd) (e l c : Int) : (st.fail e l c).words = st.words := by unfold Rd.fail; split <;> rfl

/-- the facts of a reader's block that its end wants -/
theorem RS.ends (h : RS base w b st tA tc wA wc) : w.cell? ⟨b, 5, none⟩ = some (.slice tA st.text.length tc) ∧ w.cell? ⟨b, 2, none⟩ = some (.int .i64 st.state) ∧ w.frozen? ⟨b, 5, none⟩ = false ∧ w.frozen? ⟨b, 2, none⟩ = false :=
  ⟨h.cells.2.2.2.2.2.1, h.cells.2.2.1, h.free 5, h.free 2⟩

theorem own_keep0 {w w' : World} {base : Nat} {e : TypeId} {size : Nat} {v : Value} {n : Nat} {xs : List Value} (h : w.ownsRow base e size v n xs) (hk : Keeps (fun _ => False) w w') : w'.ownsRow base e size v n xs :=
  h.kept (row := none) ⟨hk.os, hk.tape, hk.output, hk.size, fun k hk' _ => hk.block k hk' (by simp)⟩ (by cases v.ownBlock <;> simp)

theorem RS.keep0 {base b : Nat} {st : Rd} {w w' : World} {tA wA : Option Addr} {tc wc : Nat} (h : RS base w b st tA tc wA wc) (hk : Keeps (fun _ => False) w w') : RS base w' b st tA tc wA wc :=
  ⟨hk.heap h.blk (by simp), own_keep0 h.text hk, own_keep0 h.words hk, Nat.le_trans h.size hk.size⟩

@[go_sem] theorem err_ne_nil (t : TypeId) (p : Addr) (w : World) : (binOp .neq 94 (.iface t (.pointer (some p))) .nilIface).run Tryd.prog w = .ok (.bool true) w := by kernel_rfl

@[go_sem] theorem nil_eq_nil (w : World) : (binOp .neq 94 .nilIface .nilIface).run Tryd.prog w = .ok (.bool false) w := by kernel_rfl

set_option maxRecDepth 100000 in
set_option maxHeartbeats 1000000 in
theorem close_calls (hA : AtoiSaid) (hG : Glob w) (h : RS base w b st tA tc wA wc) (hn : st.words.length ≤ 1099511627776) (ht : st.text.length ≤ 1099511627776) :
    Calls Tryd.prog 25 #[.pointer (some ⟨b, 0, none⟩)] w fun e' w' => e' = .returned (.tuple #[]) ∧ RSK base w w' b st.close := by
  have q := h.cells
  obtain ⟨_, _, c2, c3, c4, c5, _⟩ := q
  have hc := h.conv
  have f5 := h.free 5
  have f2 := h.free 2
  have H := Lib.hid h
  clear h
  by_cases e2 : st.state = 2
  · have b2 : (st.state == 2) = true := by simpa using e2
    by_cases e3 : 16 < st.text.length
    · have e4 : st.close1 = (st.fail 3 st.fl st.fc).put 1 (runesBytes st.text) 0 := by unfold Rd.close1; rw [if_pos e2, if_pos e3]
      have Hf := Lib.hid (fail_word H.out 3 st.fl st.fc)
      have E4 := Lib.hid e4
      have b3 : decide ((16 : Int) < (st.text.length : Int)) = true := by simp; omega
      generalize hs : runesBytes st.text = s at *
      clear e2 e3 e4 hs hG
      go_enter Tryd.func25, Tryd.ntmps25
      go_wp2_with (first | (go_at_call 26; refine Hf.out.mono ?_; rintro e w1 ⟨rfl, h10⟩; have h1 := Lib.hid h10; clear h10) | (go_at_call 55; refine (put_word h1.out.1 1 s 0 (by rw [fail_words]; exact hn)).mono ?_; rintro e w2 ⟨rfl, h20⟩; rw [← E4.out] at h20; obtain ⟨⟨tA2, tc2, wA2, wc2, h21⟩, h22⟩ := h20; obtain ⟨d5, d2, g5, g2⟩ := h21.ends; have H2 := Lib.hid h21; have K2 := Lib.hid (h1.out.2.trans h22); clear h21 h22))
      go_end0
      exact ⟨rfl, H2.out.reset.trans K2.out⟩
    · have e4 : st.close1 = st.put 1 (runesBytes st.text) 0 := by unfold Rd.close1; rw [if_pos e2, if_neg e3]
      have E4 := Lib.hid e4
      have b3 : decide ((16 : Int) < (st.text.length : Int)) = false := by simp; omega
      generalize hs : runesBytes st.text = s at *
      clear e2 e3 e4 hs hG
      go_enter Tryd.func25, Tryd.ntmps25
      go_wp2_with (first | (go_at_call 55; refine (put_word H.out 1 s 0 hn).mono ?_; rintro e w2 ⟨rfl, h20⟩; rw [← E4.out] at h20; obtain ⟨⟨tA2, tc2, wA2, wc2, h21⟩, h22⟩ := h20; obtain ⟨d5, d2, g5, g2⟩ := h21.ends; have H2 := Lib.hid h21; have K2 := Lib.hid (h22); clear h21 h22))
      go_end0
      exact ⟨rfl, H2.out.reset.trans K2.out⟩
  · have b2 : (st.state == 2) = false := by simpa using e2
    by_cases e3 : st.state = 4
    · have b3 : (st.state == 4) = true := by simpa using e3
      have hsz := runesBytes_size_le st.text
      have hAt := Lib.hid (hA (runesBytes st.text) w (by omega) hG)
      have hcl : st.close1 = (if (numOf (runesBytes st.text)).2 = true ∨ (numOf (runesBytes st.text)).1 < -1099511627776 ∨ 1099511627776 < (numOf (runesBytes st.text)).1 then st.fail 3 st.fl st.fc else st).put 2 (runesBytes st.text) (numOf (runesBytes st.text)).1 := by
        unfold Rd.close1; rw [if_neg e2, if_pos e3]
      generalize hs : runesBytes st.text = s at *
      generalize hnn : (numOf s).1 = n at *
      cases hbad : (numOf s).2 with
      | true =>
        have e4 : st.close1 = (st.fail 3 st.fl st.fc).put 2 s n := by rw [hcl, if_pos (Or.inl hbad)]
        have E4 := Lib.hid e4
        have Hb := Lib.hid hbad
        clear e2 e3 e4 hs hG hcl hsz hbad hnn
        go_enter Tryd.func25, Tryd.ntmps25
        go_wp2_with (first | (go_at_call 56; refine hAt.out.mono ?_; rintro e w1 ⟨⟨ev, rfl, hv1, hv2⟩, hk0⟩; obtain ⟨et, ep, rfl⟩ := hv2 Hb.out; have hr := H.out.keep0 hk0; have r3 := hr.cells.2.2.2.1; have r4 := hr.cells.2.2.2.2.1; have h1 := Lib.hid hr; have hk1 := Lib.hid hk0; clear hr hk0 hv1 hv2) | (go_at_call 26; refine (fail_word h1.out 3 st.fl st.fc).mono ?_; rintro e wf ⟨rfl, hf0⟩; have hf1 := Lib.hid hf0; clear hf0) | (go_at_call 55; refine (put_word hf1.out.1 2 s n (by rw [fail_words]; exact hn)).mono ?_; rintro e w2 ⟨rfl, h20⟩; rw [← E4.out] at h20; obtain ⟨⟨tA2, tc2, wA2, wc2, h21⟩, h22⟩ := h20; obtain ⟨d5, d2, g5, g2⟩ := h21.ends; have H2 := Lib.hid h21; have K2 := Lib.hid (((hk1.out.mono (fun _ _ q => q.elim)).trans hf1.out.2).trans h22); clear h21 h22))
        go_end0
        exact ⟨rfl, H2.out.reset.trans K2.out⟩
      | false =>
        by_cases hlo : n < -1099511627776
        · have e4 : st.close1 = (st.fail 3 st.fl st.fc).put 2 s n := by rw [hcl, if_pos (Or.inr (Or.inl hlo))]
          have E4 := Lib.hid e4
          have Hb := Lib.hid hbad
          clear e2 e3 e4 hs hG hcl hsz hbad hnn
          go_enter Tryd.func25, Tryd.ntmps25
          go_wp2_with (first | (go_at_call 56; refine hAt.out.mono ?_; rintro e w1 ⟨⟨ev, rfl, hv1, hv2⟩, hk0⟩; obtain rfl := hv1 Hb.out; have hr := H.out.keep0 hk0; have r3 := hr.cells.2.2.2.1; have r4 := hr.cells.2.2.2.2.1; have h1 := Lib.hid hr; have hk1 := Lib.hid hk0; clear hr hk0 hv1 hv2) | (go_at_call 26; refine (fail_word h1.out 3 st.fl st.fc).mono ?_; rintro e wf ⟨rfl, hf0⟩; have hf1 := Lib.hid hf0; clear hf0) | (go_at_call 55; refine (put_word hf1.out.1 2 s n (by rw [fail_words]; exact hn)).mono ?_; rintro e w2 ⟨rfl, h20⟩; rw [← E4.out] at h20; obtain ⟨⟨tA2, tc2, wA2, wc2, h21⟩, h22⟩ := h20; obtain ⟨d5, d2, g5, g2⟩ := h21.ends; have H2 := Lib.hid h21; have K2 := Lib.hid (((hk1.out.mono (fun _ _ q => q.elim)).trans hf1.out.2).trans h22); clear h21 h22))
          go_end0
          exact ⟨rfl, H2.out.reset.trans K2.out⟩
        · by_cases hhi : 1099511627776 < n
          · have e4 : st.close1 = (st.fail 3 st.fl st.fc).put 2 s n := by rw [hcl, if_pos (Or.inr (Or.inr hhi))]
            have E4 := Lib.hid e4
            have Hb := Lib.hid hbad
            clear e2 e3 e4 hs hG hcl hsz hbad hnn
            go_enter Tryd.func25, Tryd.ntmps25
            go_wp2_with (first | (go_at_call 56; refine hAt.out.mono ?_; rintro e w1 ⟨⟨ev, rfl, hv1, hv2⟩, hk0⟩; obtain rfl := hv1 Hb.out; have hr := H.out.keep0 hk0; have r3 := hr.cells.2.2.2.1; have r4 := hr.cells.2.2.2.2.1; have h1 := Lib.hid hr; have hk1 := Lib.hid hk0; clear hr hk0 hv1 hv2) | (go_at_call 26; refine (fail_word h1.out 3 st.fl st.fc).mono ?_; rintro e wf ⟨rfl, hf0⟩; have hf1 := Lib.hid hf0; clear hf0) | (go_at_call 55; refine (put_word hf1.out.1 2 s n (by rw [fail_words]; exact hn)).mono ?_; rintro e w2 ⟨rfl, h20⟩; rw [← E4.out] at h20; obtain ⟨⟨tA2, tc2, wA2, wc2, h21⟩, h22⟩ := h20; obtain ⟨d5, d2, g5, g2⟩ := h21.ends; have H2 := Lib.hid h21; have K2 := Lib.hid (((hk1.out.mono (fun _ _ q => q.elim)).trans hf1.out.2).trans h22); clear h21 h22))
            go_end0
            exact ⟨rfl, H2.out.reset.trans K2.out⟩
          · have e4 : st.close1 = st.put 2 s n := by rw [hcl, if_neg (by rw [hbad]; simp; omega)]
            have E4 := Lib.hid e4
            have Hb := Lib.hid hbad
            clear e2 e3 e4 hs hG hcl hsz hbad hnn
            go_enter Tryd.func25, Tryd.ntmps25
            go_wp2_with (first | (go_at_call 56; refine hAt.out.mono ?_; rintro e w1 ⟨⟨ev, rfl, hv1, hv2⟩, hk0⟩; obtain rfl := hv1 Hb.out; have hr := H.out.keep0 hk0; have r3 := hr.cells.2.2.2.1; have r4 := hr.cells.2.2.2.2.1; have h1 := Lib.hid hr; have hk1 := Lib.hid hk0; clear hr hk0 hv1 hv2) | (go_at_call 55; refine (put_word h1.out 2 s n hn).mono ?_; rintro e w2 ⟨rfl, h20⟩; rw [← E4.out] at h20; obtain ⟨⟨tA2, tc2, wA2, wc2, h21⟩, h22⟩ := h20; obtain ⟨d5, d2, g5, g2⟩ := h21.ends; have H2 := Lib.hid h21; have K2 := Lib.hid ((hk1.out.mono (fun _ _ q => q.elim)).trans h22); clear h21 h22))
            go_end0
            exact ⟨rfl, H2.out.reset.trans K2.out⟩
    · have b3 : (st.state == 4) = false := by simpa using e3
      by_cases e4 : st.state = 3
      · have b4 : (st.state == 3) = true := by simpa using e4
        have e5 : st.close1 = st.fail 6 st.fl st.fc := by unfold Rd.close1; rw [if_neg e2, if_neg e3, if_pos e4]
        have Hf := fail_word H.out 6 st.fl st.fc
        rw [← e5] at Hf
        have HF := Lib.hid Hf
        clear e2 e3 e4 e5 hG Hf
        go_enter Tryd.func25, Tryd.ntmps25
        go_wp2_with (first | (go_at_call 26; refine HF.out.mono ?_; rintro e w2 ⟨rfl, h21, h22⟩; obtain ⟨d5, d2, g5, g2⟩ := h21.ends; have H2 := Lib.hid h21; have K2 := Lib.hid h22; clear h21 h22))
        go_end0
        exact ⟨rfl, H2.out.reset.trans K2.out⟩
      · have b4 : (st.state == 3) = false := by simpa using e4
        have e5 : st.close1 = st := by unfold Rd.close1; rw [if_neg e2, if_neg e3, if_neg e4]
        have Fin := H.out.reset
        have e6 : st.close = { st with text := [], state := 0 } := by unfold Rd.close; rw [e5]
        rw [← e6] at Fin
        have FIN := Lib.hid Fin
        clear e2 e3 e4 e5 e6 hG Fin
        go_enter Tryd.func25, Tryd.ntmps25
        go_wp2
        go_end0
        exact ⟨rfl, FIN.out⟩

end
end Go.Proofs.YtoibcaoaljglbaaDoor
