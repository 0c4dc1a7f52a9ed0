/-
  The contract of the cursor's Mark (a loop over its signs).
-/
import Derived.Test.YtoibcaoaljglbaaDoorLineF
import Derived.Deep.LoopGhost
import Derived.Outline
namespace Go.Proofs.YtoibcaoaljglbaaDoor
open Go Go.RowKit

def StrsAt (w : World) (sb off : Nat) (ss : List ByteArray) : Prop := ∀ j s, ss[j]? = some s → w.cell? ⟨sb, off + j, none⟩ = some (.string s)

theorem StrsAt.keeps {S : Nat → Prop} {w w' : World} {sb off : Nat} {ss : List ByteArray} (h : StrsAt w sb off ss) (hk : Keeps S w w') (hs : ¬ S sb) : StrsAt w' sb off ss :=
  fun j s hj => hk.cell' (h j s hj) hs

def Cur.sign (st : Cur) (s : ByteArray) : Cur := if st.is (.mark s) = true then st.over else st.fail 7

def Cur.marks (st : Cur) (ss : List ByteArray) : Cur := ss.foldl Cur.sign st

theorem marks_snoc (st : Cur) (ss : List ByteArray) (k : Nat) (s : ByteArray) (h : ss[k]? = some s) : st.marks (ss.take (k + 1)) = (st.marks (ss.take k)).sign s := by
  unfold Cur.marks
  rw [List.take_add_one, h, List.foldl_append]
  rfl

section
variable {b ib : Nat} {st : Cur} {w : World}

theorem CSK.trans {w0 w1 w2 : World} {b ib : Nat} {st1 st2 : Cur} (h : CSK w0 w1 b ib st1) (k : CSK w1 w2 b ib st2) : CSK w0 w2 b ib st2 := ⟨k.1, h.2.trans k.2⟩

set_option maxHeartbeats 400000 in
theorem Mark_calls (h : CS w b ib st) (sb off : Nat) (ss : List ByteArray) (hs : StrsAt w sb off ss) (hsb : sb ≠ b) (hl : ss.length ≤ 4611686018427387904) (cap : Nat) :
    Calls Tryd.prog 23 #[.pointer (some ⟨b, 0, none⟩), .slice (some ⟨sb, off, none⟩) ss.length cap] w fun e w' => e = .returned (.tuple #[]) ∧ CSK w w' b ib (st.marks ss) := by
  have H0 := Lib.hid (show CSK w w b ib (st.marks (ss.take 0)) from ⟨h, Keeps.refl _ _⟩)
  have Hs := Lib.hid hs
  clear h hs
  go_enter Tryd.func23, Tryd.ntmps23
  go_wp2
  go_loopw [8] (fun i wr => ∃ k : Nat, k ≤ ss.length ∧ i = .int .i64 k ∧ Hid (CSK w wr b ib (st.marks (ss.take k)))) (fun i _ => ss.length - (intOf i).toNat)
  case atStart => exact ⟨0, Nat.zero_le _, rfl, H0⟩
  case round =>
    obtain ⟨k, hk, rfl, H⟩ := hrel
    by_cases hlt : k < ss.length
    · have hsk : ss[k]? = some ss[k] := by simp [hlt]
      have hcell := Hs.out.keeps H.out.2 hsb k _ hsk
      have hsn := marks_snoc st ss k _ hsk
      generalize ss[k] = s at *
      have Hi := Lib.hid (Is_calls H.out.1 s)
      cases hi : (st.marks (ss.take k)).is (.mark s) with
      | true =>
        have e2 : (st.marks (ss.take k)).isTo (.mark s) = (st.marks (ss.take k)).sign s := by simp [Cur.isTo, Cur.sign, hi]
        rw [hi, e2, ← hsn] at Hi
        clear hsn hi e2 hsk
        go_wp2_with (first | (go_at_call 15; refine Hi.out.mono ?_; rintro e w1 ⟨rfl, h10⟩; have h1 := Lib.hid h10; clear h10))
        go_roundw
        case rel => exact ⟨k + 1, by omega, by go_num, Lib.hid (H.out.trans h1.out)⟩
        case measure => simp [intOf]; omega
      | false =>
        have e2 : (st.marks (ss.take k)).isTo (.mark s) = st.marks (ss.take k) := by simp [Cur.isTo, hi]
        have e3 : (st.marks (ss.take k)).fail 7 = (st.marks (ss.take k)).sign s := by simp [Cur.sign, hi]
        rw [hi, e2] at Hi
        have e4 := Lib.hid (e3.trans hsn.symm)
        clear hsn hi e2 hsk e3
        go_wp2_with (first | (go_at_call 15; refine Hi.out.mono ?_; rintro e w1 ⟨rfl, h10⟩; have h1 := Lib.hid h10; clear h10) | (go_at_call 18; refine (fail_calls h1.out.1 7).mono ?_; rintro e w2 ⟨rfl, h20⟩; rw [e4.out] at h20; have h2 := Lib.hid h20; clear h20))
        go_roundw
        case rel => exact ⟨k + 1, by omega, by go_num, Lib.hid ((H.out.trans h1.out).trans h2.out)⟩
        case measure => simp [intOf]; omega
    · have hk2 : k = ss.length := by omega
      subst hk2
      have Fin := H
      rw [List.take_length] at Fin
      clear H
      go_wp2
      go_end0
      exact ⟨rfl, Fin.out⟩

end
end Go.Proofs.YtoibcaoaljglbaaDoor
