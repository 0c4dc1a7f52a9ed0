/-
  The contracts of the cursor's able, More, over, here, is, Key, Is, Fail.
-/
import Derived.Test.YtoibcaoaljglbaaDoorLineA
namespace Go.Proofs.YtoibcaoaljglbaaDoor
open Go Go.RowKit

section
variable {b ib : Nat} {st : Cur} {w : World}

theorem able_t (h : CS w b ib st) (hw : st.wrong = 0) :
    Calls Tryd.prog 35 #[.pointer (some ⟨b, 0, none⟩)] w fun e w' => e = .returned (.bool true) ∧ w = w' := by
  obtain ⟨A, c, _, h1, _, _, h4, _, _, _⟩ := h.cells
  rw [hw] at h1
  clear hw h
  go_enter Tryd.func35, Tryd.ntmps35
  go_wp2
  go_ret
  exact ⟨rfl, rfl⟩

theorem able_f (h : CS w b ib st) (hw : st.wrong ≠ 0) :
    Calls Tryd.prog 35 #[.pointer (some ⟨b, 0, none⟩)] w fun e w' => e = .returned (.bool false) ∧ w = w' := by
  obtain ⟨A, c, _, h1, _, _, h4, _, _, _⟩ := h.cells
  have hw' : (st.wrong == 0) = false := by simpa using hw
  clear hw h
  go_enter Tryd.func35, Tryd.ntmps35
  go_wp2
  go_ret
  exact ⟨rfl, rfl⟩

theorem hasV_nil {o : Option Has} (h : o = none) : hasV o = .nilIface := by rw [h]; rfl

def Cur.more (st : Cur) : Bool := st.wrong == 0 && !st.items.isEmpty

@[go_sem] theorem Has.guard (h : Has) (op : BinOp) (t : TypeId) (x y : Operand) (u : Value) : eqGuard op t x y h.v u = pure () := by
  cases op <;> cases h <;> rfl

@[go_sem] theorem Has.ne_nil (h : Has) (w : World) : (binOp .neq 20 h.v .nilIface).run Tryd.prog w = .ok (.bool true) w := by
  cases h <;> kernel_rfl

theorem more_calls (h : CS w b ib st) :
    Calls Tryd.prog 11 #[.pointer (some ⟨b, 0, none⟩)] w fun e w' => e = .returned (.bool st.more) ∧ w = w' := by
  by_cases hw : st.wrong = 0
  · have ht := able_t h hw
    have hn := next_calls h
    obtain ⟨its, wrong, l, cc⟩ := st
    simp only at hw
    subst hw
    cases its with
    | nil =>
      have e1 : Cur.more ⟨[], 0, l, cc⟩ = false := rfl
      have e2 : hasV (Cur.next ⟨[], 0, l, cc⟩) = .nilIface := rfl
      rw [e1]
      rw [e2] at hn
      have Ht := Lib.hid ht
      have Hn := Lib.hid hn
      clear ht hn h e1 e2
      go_enter Tryd.func11, Tryd.ntmps11
      go_wp2_with (first | (go_at_call 35; refine Ht.out.mono ?_; rintro e w' ⟨rfl, rfl⟩) | (go_at_call 36; refine Hn.out.mono ?_; rintro e w' ⟨rfl, rfl⟩))
      go_ret
      exact ⟨rfl, rfl⟩
    | cons x rest =>
      have e1 : Cur.more ⟨x :: rest, 0, l, cc⟩ = true := rfl
      have e2 : hasV (Cur.next ⟨x :: rest, 0, l, cc⟩) = x.has.v := rfl
      rw [e1]
      rw [e2] at hn
      have Ht := Lib.hid ht
      have Hn := Lib.hid hn
      clear ht hn h e1 e2
      go_enter Tryd.func11, Tryd.ntmps11
      go_wp2_with (first | (go_at_call 35; refine Ht.out.mono ?_; rintro e w' ⟨rfl, rfl⟩) | (go_at_call 36; refine Hn.out.mono ?_; rintro e w' ⟨rfl, rfl⟩))
      go_ret
      exact ⟨rfl, rfl⟩
  · have hf := able_f h hw
    have e1 : st.more = false := by simp [Cur.more, hw]
    rw [e1]
    have Hf := Lib.hid hf
    clear hf h e1 hw
    go_enter Tryd.func11, Tryd.ntmps11
    go_wp2_with (first | (go_at_call 35; refine Hf.out.mono ?_; rintro e w' ⟨rfl, rfl⟩))
    go_ret
    exact ⟨rfl, rfl⟩

/-- what the cursor's methods leave: its state, and all else as it was -/
def CSK (w w' : World) (b ib : Nat) (st : Cur) : Prop := CS w' b ib st ∧ Keeps (fun k => k = b) w w'

def Cur.over (st : Cur) : Cur := { st with items := st.items.tail }

theorem over_calls (h : CS w b ib st) (hne : st.items ≠ []) :
    Calls Tryd.prog 33 #[.pointer (some ⟨b, 0, none⟩)] w fun e w' => e = .returned (.tuple #[]) ∧ CSK w w' b ib st.over := by
  obtain ⟨A, c, hb, hl, hc, hr, hib⟩ := h
  obtain ⟨its, wrong, l, cc⟩ := st
  cases its with
  | nil => exact absurd rfl hne
  | cons x rest =>
    obtain ⟨off, rfl, hx⟩ := hr (by simp)
    have h0 : w.cell? ⟨b, 0, none⟩ = some (.slice (some ⟨ib, off, none⟩) (rest.length + 1) c) := (blk_cell hb 0).trans rfl
    have f0 := blk_free hb 0
    simp only [List.length_cons] at hl
    by_cases hc1 : c = 1
    · subst hc1
      have hr0 : rest = [] := by
        cases rest with
        | nil => rfl
        | cons y t => simp at hl
      subst hr0
      have fin : CSK w (w.setCell ⟨b, 0, none⟩ (.slice (some ⟨ib, off, none⟩) 0 0)) b ib (Cur.over ⟨[x], wrong, l, cc⟩) :=
        ⟨⟨some ⟨ib, off, none⟩, 0, blk_set hb 0 _, Nat.le_refl _, by omega, fun hn => absurd rfl hn, hib⟩, keeps1 _ _ _ _⟩
      have Fin := Lib.hid fin
      clear fin hx hr hb hne hib hl hc
      go_enter Tryd.func33, Tryd.ntmps33
      go_wp2
      go_end0
      exact ⟨rfl, Fin.out⟩
    · have fin : CSK w (w.setCell ⟨b, 0, none⟩ (.slice (some ⟨ib, off + 3, none⟩) rest.length (c - 1))) b ib (Cur.over ⟨x :: rest, wrong, l, cc⟩) := by
        refine ⟨⟨some ⟨ib, off + 3, none⟩, c - 1, blk_set hb 0 _, ?_, by omega, fun hn => ⟨off + 3, rfl, fun j y hj => ?_⟩, hib⟩, keeps1 _ _ _ _⟩
        · show rest.length ≤ c - 1
          omega
        · obtain ⟨a1, a2, a3⟩ := hx (j + 1) y hj
          have hk : Keeps (fun k => k = b) w (w.setCell ⟨b, 0, none⟩ (.slice (some ⟨ib, off + 3, none⟩) rest.length (c - 1))) := keeps1 _ _ _ _
          rw [show off + 3 + 3 * j = off + 3 * (j + 1) by omega]
          exact ⟨hk.cell' a1 hib, hk.cell' a2 hib, hk.cell' a3 hib⟩
      have Fin := Lib.hid fin
      have hc2 : 1 < c := by omega
      clear fin hx hr hb hne hib hc1
      go_enter Tryd.func33, Tryd.ntmps33
      go_wp2
      go_end0
      exact ⟨rfl, Fin.out⟩

end
end Go.Proofs.YtoibcaoaljglbaaDoor
