/-
  The contracts of the cursor's Key, Is, Fail.
-/
import Derived.Test.YtoibcaoaljglbaaDoorLineC
namespace Go.Proofs.YtoibcaoaljglbaaDoor
open Go Go.RowKit

section
variable {b ib : Nat} {st : Cur} {w : World}

def Cur.isTo (st : Cur) (x : Has) : Cur := if st.is x = true then st.over else st

theorem key_calls (h : CS w b ib st) (s : ByteArray) :
    Calls Tryd.prog 39 #[.pointer (some ⟨b, 0, none⟩), .string s] w fun e w' => e = .returned (.bool (st.is (.name s))) ∧ CSK w w' b ib (st.isTo (.name s)) := by
  cases hi : st.is (.name s) with
  | true =>
    have hc := is_t h hi
    simp only [Has.v] at hc
    have e1 : st.isTo (.name s) = st.over := by simp [Cur.isTo, hi]
    rw [e1]
    have Hc := Lib.hid hc
    clear hc h e1 hi
    go_enter Tryd.func39, Tryd.ntmps39
    go_wp2_with (first | (go_at_call 37; refine Hc.out.mono ?_; rintro e w1 ⟨rfl, h10⟩; have h1 := Lib.hid h10; clear h10))
    go_ret
    exact ⟨rfl, h1.out⟩
  | false =>
    have hc := is_f h hi
    simp only [Has.v] at hc
    have e1 : st.isTo (.name s) = st := by simp [Cur.isTo, hi]
    rw [e1]
    have fin : CSK w w b ib st := ⟨h, Keeps.refl _ _⟩
    have Fin := Lib.hid fin
    have Hc := Lib.hid hc
    clear hc h e1 hi fin
    go_enter Tryd.func39, Tryd.ntmps39
    go_wp2_with (first | (go_at_call 37; refine Hc.out.mono ?_; rintro e w' ⟨rfl, rfl⟩))
    go_ret
    exact ⟨rfl, Fin.out⟩

theorem Is_calls (h : CS w b ib st) (s : ByteArray) :
    Calls Tryd.prog 15 #[.pointer (some ⟨b, 0, none⟩), .string s] w fun e w' => e = .returned (.bool (st.is (.mark s))) ∧ CSK w w' b ib (st.isTo (.mark s)) := by
  cases hi : st.is (.mark s) with
  | true =>
    have hc := is_t h hi
    simp only [Has.v] at hc
    have e1 : st.isTo (.mark s) = st.over := by simp [Cur.isTo, hi]
    rw [e1]
    have Hc := Lib.hid hc
    clear hc h e1 hi
    go_enter Tryd.func15, Tryd.ntmps15
    go_wp2_with (first | (go_at_call 37; refine Hc.out.mono ?_; rintro e w1 ⟨rfl, h10⟩; have h1 := Lib.hid h10; clear h10))
    go_ret
    exact ⟨rfl, h1.out⟩
  | false =>
    have hc := is_f h hi
    simp only [Has.v] at hc
    have e1 : st.isTo (.mark s) = st := by simp [Cur.isTo, hi]
    rw [e1]
    have fin : CSK w w b ib st := ⟨h, Keeps.refl _ _⟩
    have Fin := Lib.hid fin
    have Hc := Lib.hid hc
    clear hc h e1 hi fin
    go_enter Tryd.func15, Tryd.ntmps15
    go_wp2_with (first | (go_at_call 37; refine Hc.out.mono ?_; rintro e w' ⟨rfl, rfl⟩))
    go_ret
    exact ⟨rfl, Fin.out⟩

def Cur.fail (st : Cur) (e : Int) : Cur := if st.wrong = 0 ∧ e ≠ 0 then { st with wrong := e, l := st.here.1, c := st.here.2 } else st

theorem fail_calls (h : CS w b ib st) (x : Int) :
    Calls Tryd.prog 18 #[.pointer (some ⟨b, 0, none⟩), .int .i64 x] w fun e w' => e = .returned (.tuple #[]) ∧ CSK w w' b ib (st.fail x) := by
  by_cases hw : st.wrong = 0
  · have Ht := Lib.hid (able_t h hw)
    by_cases hx : x = 0
    · have e1 : st.fail x = st := by simp [Cur.fail, hx]
      rw [e1]
      have Fin := Lib.hid (show CSK w w b ib st from ⟨h, Keeps.refl _ _⟩)
      have hx' : (x != 0) = false := by simpa using hx
      clear h e1 hw hx
      go_enter Tryd.func18, Tryd.ntmps18
      go_wp2_with (first | (go_at_call 35; refine Ht.out.mono ?_; rintro e w' ⟨rfl, rfl⟩))
      go_end0
      exact ⟨rfl, Fin.out⟩
    · have e1 : st.fail x = { st with wrong := x, l := st.here.1, c := st.here.2 } := by simp [Cur.fail, hw, hx]
      rw [e1]
      have Hh := Lib.hid (here_calls h)
      have H := Lib.hid h
      have hx' : (x != 0) = true := by simpa using hx
      clear h e1 hw hx
      go_enter Tryd.func18, Tryd.ntmps18
      go_wp2_with (first | (go_at_call 35; refine Ht.out.mono ?_; rintro e w' ⟨rfl, rfl⟩) | (go_at_call 34; refine Hh.out.mono ?_; rintro e w1 ⟨rfl, hk⟩; have H1 := H.out.keep0 hk; obtain ⟨A, c, hb, h5⟩ := H1; have q1 := (blk_cell hb 1).trans rfl; have q2 := (blk_cell hb 2).trans rfl; have q3 := (blk_cell hb 3).trans rfl; have f1 := blk_free hb 1; have f2 := blk_free hb 2; have f3 := blk_free hb 3; have Hk := Lib.hid hk; have Hb := Lib.hid hb; have H5 := Lib.hid h5; clear hk hb h5))
      go_end0
      obtain ⟨hl, hc, hr, hib⟩ := H5.out
      refine ⟨rfl, ⟨A, c, ?_, hl, hc, hr.keeps (((keeps1 w1 b 1 _).set1 2 _).set1 3 _) hib, hib⟩, ?_⟩
      · exact blk_set (blk_set (blk_set Hb.out 1 _) 2 _) 3 _
      · exact (((Hk.out.mono (fun _ _ q => q.elim)).set1 1 _).set1 2 _).set1 3 _
  · have e1 : st.fail x = st := by simp [Cur.fail, hw]
    rw [e1]
    have Fin := Lib.hid (show CSK w w b ib st from ⟨h, Keeps.refl _ _⟩)
    have Hf := Lib.hid (able_f h hw)
    clear h e1 hw
    go_enter Tryd.func18, Tryd.ntmps18
    go_wp2_with (first | (go_at_call 35; refine Hf.out.mono ?_; rintro e w' ⟨rfl, rfl⟩))
    go_end0
    exact ⟨rfl, Fin.out⟩

end
end Go.Proofs.YtoibcaoaljglbaaDoor
