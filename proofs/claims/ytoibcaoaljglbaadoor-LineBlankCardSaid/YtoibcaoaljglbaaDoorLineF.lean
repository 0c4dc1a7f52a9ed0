/-
  The contracts of the cursor's End, Err, Mark.
-/
import Derived.Test.YtoibcaoaljglbaaDoorLineE
import Derived.Deep.QuietTactic
import Derived.BigQuiet
import Derived.Deep.RegionWith
namespace Go.Proofs.YtoibcaoaljglbaaDoor
open Go Go.RowKit

@[go_sem] theorem field_place0 (x y : Int) (w : World) : (Instr.field 65 (.agg #[.int .i64 x, .int .i64 y]) 0).run Tryd.prog w = .ok (.int .i64 x) w := by kernel_rfl

@[go_sem] theorem field_place1 (x y : Int) (w : World) : (Instr.field 65 (.agg #[.int .i64 x, .int .i64 y]) 1).run Tryd.prog w = .ok (.int .i64 y) w := by kernel_rfl

section
variable {b ib : Nat} {st : Cur} {w : World}

def Cur.fin (st : Cur) : Cur := if st.more = true then (if st.is .stop = true then st.over else st.fail 7) else st

theorem End_calls (h : CS w b ib st) :
    Calls Tryd.prog 12 #[.pointer (some ⟨b, 0, none⟩)] w fun e w' => e = .returned (.tuple #[]) ∧ CSK w w' b ib st.fin := by
  have Hm := Lib.hid (more_calls h)
  cases hm : st.more with
  | false =>
    have e1 : st.fin = st := by simp [Cur.fin, hm]
    rw [e1]
    have Fin := Lib.hid (show CSK w w b ib st from ⟨h, Keeps.refl _ _⟩)
    rw [hm] at Hm
    clear h e1 hm
    go_enter Tryd.func12, Tryd.ntmps12
    go_wp2_with (first | (go_at_call 11; refine Hm.out.mono ?_; rintro e w' ⟨rfl, rfl⟩))
    go_end0
    exact ⟨rfl, Fin.out⟩
  | true =>
    rw [hm] at Hm
    cases hs : st.is .stop with
    | true =>
      have hi := is_t h hs
      have e1 : st.fin = st.over := by simp [Cur.fin, hm, hs]
      rw [e1]
      simp only [stop_v] at hi
      have Hi := Lib.hid hi
      clear h e1 hm hs hi
      go_enter Tryd.func12, Tryd.ntmps12
      go_wp2_with (first | (go_at_call 11; refine Hm.out.mono ?_; rintro e w' ⟨rfl, rfl⟩) | (go_at_call 37; refine Hi.out.mono ?_; rintro e w1 ⟨rfl, h10⟩; have h1 := Lib.hid h10; clear h10))
      go_end0
      exact ⟨rfl, h1.out⟩
    | false =>
      have hi := is_f h hs
      have e1 : st.fin = st.fail 7 := by simp [Cur.fin, hm, hs]
      rw [e1]
      simp only [stop_v] at hi
      have Hi := Lib.hid hi
      have Hf := Lib.hid (fail_calls h 7)
      clear h e1 hm hs hi
      go_enter Tryd.func12, Tryd.ntmps12
      go_wp2_with (first | (go_at_call 11; refine Hm.out.mono ?_; rintro e w' ⟨rfl, rfl⟩) | (go_at_call 37; refine Hi.out.mono ?_; rintro e w' ⟨rfl, rfl⟩) | (go_at_call 18; refine Hf.out.mono ?_; rintro e w1 ⟨rfl, h10⟩; have h1 := Lib.hid h10; clear h10))
      go_end0
      exact ⟨rfl, h1.out⟩

def Cur.err (st : Cur) : Int × Int × Int := if st.wrong = 0 then (if st.items.isEmpty then (0, 0, 0) else (st.here.1, st.here.2, 7)) else (st.l, st.c, st.wrong)

set_option maxRecDepth 100000 in
theorem Err_calls (h : CS w b ib st) :
    Calls Tryd.prog 10 #[.pointer (some ⟨b, 0, none⟩)] w fun e w' => e = .returned (.tuple #[.int .i64 st.err.1, .int .i64 st.err.2.1, .int .i64 st.err.2.2]) ∧ Keeps (fun _ => False) w w' := by
  by_cases hw : st.wrong = 0
  · have Hm := Lib.hid (more_calls h)
    obtain ⟨A, c, _, h1, _, _, h4, _, _, _⟩ := h.cells
    obtain ⟨its, wrong, l, cc⟩ := st
    simp only at hw h1
    subst hw
    cases its with
    | nil =>
      have e1 : Cur.err ⟨[], 0, l, cc⟩ = (0, 0, 0) := rfl
      have e2 : Cur.more ⟨[], 0, l, cc⟩ = false := rfl
      rw [e1]
      rw [e2] at Hm
      clear h e1 e2
      go_enter Tryd.func10, Tryd.ntmps10
      go_wp2_with (first | (go_at_call 11; refine Hm.out.mono ?_; rintro e w' ⟨rfl, rfl⟩))
      go_ret3
      exact ⟨rfl, Keeps.refl _ _⟩
    | cons y rest =>
      have e1 : Cur.err ⟨y :: rest, 0, l, cc⟩ = (y.line, y.col, 7) := rfl
      have e2 : Cur.more ⟨y :: rest, 0, l, cc⟩ = true := rfl
      rw [e1]
      rw [e2] at Hm
      have H := Lib.hid h
      clear h e1 e2
      go_enter Tryd.func10, Tryd.ntmps10
      go_wp2_with (first | (go_at_call 11; refine Hm.out.mono ?_; rintro e w' ⟨rfl, rfl⟩))
      go_region_with (first | (go_at_call 34; refine (here_calls (H.out.keep0 hkA.out)).mono ?_; rintro e wB ⟨rfl, hk0⟩; have hkB := Lib.hid (hkA.out.trans hk0); clear hk0) | (go_at_call 34; refine (here_calls (H.out.keep0 (Keeps.refl _ _).drew)).mono ?_; rintro e wA ⟨rfl, hk0⟩; have hkA := Lib.hid ((Keeps.refl (fun _ => False) w).drew.trans hk0); clear hk0))
      all_goals
        go_wp2
        go_ret3
        exact ⟨rfl, hkB.out⟩
  · have e1 : st.err = (st.l, st.c, st.wrong) := by simp [Cur.err, hw]
    rw [e1]
    obtain ⟨A, c, _, h1, h2, h3, h4, _, _, _⟩ := h.cells
    have hw1 : (st.wrong == 0) = false := by simpa using hw
    have hw2 : (st.wrong != 0) = true := by simpa using hw
    clear h e1 hw
    go_enter Tryd.func10, Tryd.ntmps10
    go_wp2
    go_quiet (fail)
    go_wp2
    go_ret3
    exact ⟨rfl, (Keeps.refl _ _).drewN _⟩

end
end Go.Proofs.YtoibcaoaljglbaaDoor
