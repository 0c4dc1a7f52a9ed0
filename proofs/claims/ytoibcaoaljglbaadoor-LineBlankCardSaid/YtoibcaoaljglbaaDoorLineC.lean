/-
  The contracts of the cursor's here, is, Key, Is, Fail.
-/
import Derived.Test.YtoibcaoaljglbaaDoorLineB
namespace Go.Proofs.YtoibcaoaljglbaaDoor
open Go Go.RowKit

section
variable {b ib : Nat} {st : Cur} {w : World}

def Cur.here (st : Cur) : Int × Int := match st.items with
  | [] => (0, 0)
  | x :: _ => (x.line, x.col)

theorem here_calls (h : CS w b ib st) :
    Calls Tryd.prog 34 #[.pointer (some ⟨b, 0, none⟩)] w fun e w' => e = .returned (.agg #[.int .i64 st.here.1, .int .i64 st.here.2]) ∧ Keeps (fun _ => False) w w' := by
  have hlt := h.lt
  obtain ⟨A, c, h0, _, _, _, _, hl, hc, hr⟩ := h.cells
  obtain ⟨its, wrong, l, cc⟩ := st
  cases its with
  | nil =>
    simp only [List.length_nil] at h0
    clear hr h
    go_enter Tryd.func34, Tryd.ntmps34
    go_wp2
    exact bodyPost_ret (v := .agg #[.int .i64 0, .int .i64 0]) (by simp [results, Tryd.results34, go_sem]) rfl ⟨rfl, (((Keeps.refl _ _).alloc _))⟩
  | cons x rest =>
    obtain ⟨off, rfl, hx⟩ := hr (by simp)
    obtain ⟨a1, a2, a3⟩ := hx 0 x rfl
    clear hx hr h
    have a1' : w.cell? ⟨ib, off, none⟩ = some (.int .i64 x.line) := a1
    have a2' : w.cell? ⟨ib, off + 1, none⟩ = some (.int .i64 x.col) := a2
    have hil : ib < w.heap.size := by
      rcases Nat.lt_or_ge ib w.heap.size with q | q
      · exact q
      · simp [World.cell?, Array.getElem?_eq_none (show w.heap.size ≤ ib from q)] at a1
    clear a1 a2 a3
    simp only [List.length_cons] at h0 hl
    have hpos : decide ((0 : Int) < ((rest.length + 1 : Nat) : Int)) = true := by simp
    go_enter Tryd.func34, Tryd.ntmps34
    go_wp2
    exact bodyPost_ret (v := .agg #[.int .i64 x.line, .int .i64 x.col]) (by simp [results, Tryd.results34, go_sem]) rfl ⟨rfl, (((Keeps.refl _ _).alloc _))⟩

@[go_sem] theorem Has.neq_run (a x : Has) (w : World) : (binOp .neq 20 a.v x.v).run Tryd.prog w = .ok (.bool (!a.eqb x)) w := by
  cases a <;> cases x <;> kernel_rfl

@[go_sem] theorem Has.eql_run (a x : Has) (w : World) : (binOp .eql 20 a.v x.v).run Tryd.prog w = .ok (.bool (a.eqb x)) w := by
  cases a <;> cases x <;> kernel_rfl

@[go_sem] theorem Has.nil_neq_run (x : Has) (w : World) : (binOp .neq 20 .nilIface x.v).run Tryd.prog w = .ok (.bool true) w := by
  cases x <;> kernel_rfl

@[go_sem] theorem Has.nil_eql_run (x : Has) (w : World) : (binOp .eql 20 .nilIface x.v).run Tryd.prog w = .ok (.bool false) w := by
  cases x <;> kernel_rfl

@[go_sem] theorem Has.guard' (h : Has) (op : BinOp) (t : TypeId) (x y : Operand) : eqGuard op t x y .nilIface h.v = pure () := by
  cases op <;> cases h <;> rfl

def Cur.is (st : Cur) (x : Has) : Bool := st.wrong == 0 && match st.items with
  | [] => false
  | y :: _ => y.has.eqb x

theorem is_f (h : CS w b ib st) {x : Has} (hi : st.is x = false) :
    Calls Tryd.prog 37 #[.pointer (some ⟨b, 0, none⟩), x.v] w fun e w' => e = .returned (.bool false) ∧ w = w' := by
  by_cases hw : st.wrong = 0
  · have Ht := Lib.hid (able_t h hw)
    have Hn := Lib.hid (next_calls h)
    obtain ⟨its, wrong, l, cc⟩ := st
    simp only at hw
    subst hw
    cases its with
    | nil =>
      have e2 : hasV (Cur.next ⟨[], 0, l, cc⟩) = .nilIface := rfl
      rw [e2] at Hn
      clear h e2 hi
      go_enter Tryd.func37, Tryd.ntmps37
      go_wp2_with (first | (go_at_call 35; refine Ht.out.mono ?_; rintro e w' ⟨rfl, rfl⟩) | (go_at_call 36; refine Hn.out.mono ?_; rintro e w' ⟨rfl, rfl⟩))
      go_ret
      exact ⟨rfl, rfl⟩
    | cons y rest =>
      have e2 : hasV (Cur.next ⟨y :: rest, 0, l, cc⟩) = y.has.v := rfl
      have e3 : y.has.eqb x = false := hi
      rw [e2] at Hn
      clear h e2 hi
      go_enter Tryd.func37, Tryd.ntmps37
      go_wp2_with (first | (go_at_call 35; refine Ht.out.mono ?_; rintro e w' ⟨rfl, rfl⟩) | (go_at_call 36; refine Hn.out.mono ?_; rintro e w' ⟨rfl, rfl⟩))
      go_ret
      exact ⟨rfl, rfl⟩
  · have Hf := Lib.hid (able_f h hw)
    clear h hi hw
    go_enter Tryd.func37, Tryd.ntmps37
    go_wp2_with (first | (go_at_call 35; refine Hf.out.mono ?_; rintro e w' ⟨rfl, rfl⟩))
    go_ret
    exact ⟨rfl, rfl⟩

theorem is_t (h : CS w b ib st) {x : Has} (hi : st.is x = true) :
    Calls Tryd.prog 37 #[.pointer (some ⟨b, 0, none⟩), x.v] w fun e w' => e = .returned (.bool true) ∧ CSK w w' b ib st.over := by
  obtain ⟨its, wrong, l, cc⟩ := st
  obtain ⟨hw, hi⟩ : (wrong == 0) = true ∧ _ = true := Bool.and_eq_true_iff.1 hi
  obtain rfl : wrong = 0 := by simpa using hw
  cases its with
  | nil => exact absurd hi (by simp)
  | cons y rest =>
    have Ht := Lib.hid (able_t h rfl)
    have Hn := Lib.hid (next_calls h)
    have Ho := Lib.hid (over_calls h (by simp))
    have e2 : hasV (Cur.next ⟨y :: rest, 0, l, cc⟩) = y.has.v := rfl
    have e3 : y.has.eqb x = true := hi
    rw [e2] at Hn
    clear h e2 hi hw
    go_enter Tryd.func37, Tryd.ntmps37
    go_wp2_with (first | (go_at_call 35; refine Ht.out.mono ?_; rintro e w' ⟨rfl, rfl⟩) | (go_at_call 36; refine Hn.out.mono ?_; rintro e w' ⟨rfl, rfl⟩) | (go_at_call 33; refine Ho.out.mono ?_; rintro e w1 ⟨rfl, h10⟩; have h1 := Lib.hid h10; clear h10))
    go_ret
    exact ⟨rfl, h1.out⟩

end
end Go.Proofs.YtoibcaoaljglbaaDoor
