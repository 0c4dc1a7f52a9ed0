/-
  The contracts of the cursor's Ends, Peek, Name, Num.
-/
import Derived.Test.YtoibcaoaljglbaaDoorLineD
namespace Go.Proofs.YtoibcaoaljglbaaDoor
open Go Go.RowKit

def Has.asName : Has → ByteArray × Bool
  | .name s => (s, true)
  | _ => (⟨#[]⟩, false)

def Has.asNum : Has → Int × Bool
  | .num n => (n, true)
  | _ => (0, false)

@[go_sem] theorem Has.assertName (h : Has) (w : World) :
    (Instr.typeAssert h.v 20 79 true).run Tryd.prog w = .ok (.tuple #[.string h.asName.1, .bool h.asName.2]) w := by
  cases h <;> kernel_rfl

@[go_sem] theorem nil_assertName (w : World) :
    (Instr.typeAssert .nilIface 20 79 true).run Tryd.prog w = .ok (.tuple #[.string ⟨#[]⟩, .bool false]) w := by
  kernel_rfl

@[go_sem] theorem Has.assertNum (h : Has) (w : World) :
    (Instr.typeAssert h.v 20 3 true).run Tryd.prog w = .ok (.tuple #[.int .i64 h.asNum.1, .bool h.asNum.2]) w := by
  cases h <;> kernel_rfl

@[go_sem] theorem nil_assertNum (w : World) :
    (Instr.typeAssert .nilIface 20 3 true).run Tryd.prog w = .ok (.tuple #[.int .i64 0, .bool false]) w := by
  kernel_rfl

section
variable {b ib : Nat} {st : Cur} {w : World}

def Cur.ends (st : Cur) : Bool := !st.more || match st.items with
  | [] => false
  | y :: _ => y.has.eqb .stop

theorem stop_v : Has.stop.v = .iface 78 (.agg #[]) := rfl

theorem ends_calls (h : CS w b ib st) :
    Calls Tryd.prog 43 #[.pointer (some ⟨b, 0, none⟩)] w fun e w' => e = .returned (.bool st.ends) ∧ w = w' := by
  have Hm := Lib.hid (more_calls h)
  cases hm : st.more with
  | false =>
    have e1 : st.ends = true := by simp [Cur.ends, hm]
    rw [e1]
    rw [hm] at Hm
    clear h e1 hm
    go_enter Tryd.func43, Tryd.ntmps43
    go_wp2_with (first | (go_at_call 11; refine Hm.out.mono ?_; rintro e w' ⟨rfl, rfl⟩))
    go_ret
    exact ⟨rfl, rfl⟩
  | true =>
    rw [hm] at Hm
    have Hn := Lib.hid (next_calls h)
    obtain ⟨its, wrong, l, cc⟩ := st
    cases its with
    | nil => exact absurd hm (by simp [Cur.more])
    | cons y rest =>
      have e1 : Cur.ends ⟨y :: rest, wrong, l, cc⟩ = y.has.eqb .stop := by simp [Cur.ends, hm]
      rw [e1]
      have e2 : hasV (Cur.next ⟨y :: rest, wrong, l, cc⟩) = y.has.v := rfl
      rw [e2] at Hn
      have hq := fun w => y.has.eql_run .stop w
      simp only [stop_v] at hq
      clear h e1 hm e2
      go_enter Tryd.func43, Tryd.ntmps43
      go_wp2_with (first | (go_at_call 11; refine Hm.out.mono ?_; rintro e w' ⟨rfl, rfl⟩) | (go_at_call 36; refine Hn.out.mono ?_; rintro e w' ⟨rfl, rfl⟩))
      go_ret
      exact ⟨rfl, rfl⟩

def Cur.peek (st : Cur) : ByteArray := if st.wrong = 0 then match st.items with
  | [] => ⟨#[]⟩
  | y :: _ => y.has.asName.1
  else ⟨#[]⟩

theorem peek_calls (h : CS w b ib st) :
    Calls Tryd.prog 45 #[.pointer (some ⟨b, 0, none⟩)] w fun e w' => e = .returned (.string st.peek) ∧ w = w' := by
  by_cases hw : st.wrong = 0
  · have Ht := Lib.hid (able_t h hw)
    have Hn := Lib.hid (next_calls h)
    obtain ⟨its, wrong, l, cc⟩ := st
    simp only at hw
    subst hw
    cases its with
    | nil =>
      have e2 : hasV (Cur.next ⟨[], 0, l, cc⟩) = .nilIface := rfl
      rw [e2] at Hn
      have e1 : Cur.peek ⟨[], 0, l, cc⟩ = ⟨#[]⟩ := rfl
      rw [e1]
      clear h e2 e1
      go_enter Tryd.func45, Tryd.ntmps45
      go_wp2_with (first | (go_at_call 35; refine Ht.out.mono ?_; rintro e w' ⟨rfl, rfl⟩) | (go_at_call 36; refine Hn.out.mono ?_; rintro e w' ⟨rfl, rfl⟩))
      go_ret
      exact ⟨rfl, rfl⟩
    | cons y rest =>
      have e2 : hasV (Cur.next ⟨y :: rest, 0, l, cc⟩) = y.has.v := rfl
      rw [e2] at Hn
      have e1 : Cur.peek ⟨y :: rest, 0, l, cc⟩ = y.has.asName.1 := rfl
      rw [e1]
      clear h e2 e1
      go_enter Tryd.func45, Tryd.ntmps45
      go_wp2_with (first | (go_at_call 35; refine Ht.out.mono ?_; rintro e w' ⟨rfl, rfl⟩) | (go_at_call 36; refine Hn.out.mono ?_; rintro e w' ⟨rfl, rfl⟩))
      go_ret
      exact ⟨rfl, rfl⟩
  · have Hf := Lib.hid (able_f h hw)
    have e1 : st.peek = ⟨#[]⟩ := by simp [Cur.peek, hw]
    rw [e1]
    clear h hw e1
    go_enter Tryd.func45, Tryd.ntmps45
    go_wp2_with (first | (go_at_call 35; refine Hf.out.mono ?_; rintro e w' ⟨rfl, rfl⟩))
    go_ret
    exact ⟨rfl, rfl⟩

/-- Name: what it tells, and the state behind it -/
def Cur.name (st : Cur) : ByteArray × Cur := if st.wrong = 0 then match st.items with
  | [] => (⟨#[]⟩, st.fail 7)
  | y :: _ => if y.has.asName.2 = true then (y.has.asName.1, st.over) else (⟨#[]⟩, st.fail 7)
  else (⟨#[]⟩, st)

theorem name_calls (h : CS w b ib st) :
    Calls Tryd.prog 13 #[.pointer (some ⟨b, 0, none⟩)] w fun e w' => e = .returned (.string st.name.1) ∧ CSK w w' b ib st.name.2 := by
  by_cases hw : st.wrong = 0
  · have Ht := Lib.hid (able_t h hw)
    have Hn := Lib.hid (next_calls h)
    have Hf := Lib.hid (fail_calls h 7)
    obtain ⟨its, wrong, l, cc⟩ := st
    simp only at hw
    subst hw
    cases its with
    | nil =>
      have e2 : hasV (Cur.next ⟨[], 0, l, cc⟩) = .nilIface := rfl
      rw [e2] at Hn
      have e1 : Cur.name ⟨[], 0, l, cc⟩ = (⟨#[]⟩, Cur.fail ⟨[], 0, l, cc⟩ 7) := rfl
      rw [e1]
      clear h e2 e1
      go_enter Tryd.func13, Tryd.ntmps13
      go_wp2_with (first | (go_at_call 35; refine Ht.out.mono ?_; rintro e w' ⟨rfl, rfl⟩) | (go_at_call 36; refine Hn.out.mono ?_; rintro e w' ⟨rfl, rfl⟩) | (go_at_call 18; refine Hf.out.mono ?_; rintro e w1 ⟨rfl, h10⟩; have h1 := Lib.hid h10; clear h10))
      go_ret
      exact ⟨rfl, h1.out⟩
    | cons y rest =>
      have e2 : hasV (Cur.next ⟨y :: rest, 0, l, cc⟩) = y.has.v := rfl
      rw [e2] at Hn
      cases hy : y.has.asName.2 with
      | true =>
        have Ho := Lib.hid (over_calls h (by simp))
        have e1 : Cur.name ⟨y :: rest, 0, l, cc⟩ = (y.has.asName.1, Cur.over ⟨y :: rest, 0, l, cc⟩) := by simp [Cur.name, hy]
        rw [e1]
        clear h e2 e1 Hf
        go_enter Tryd.func13, Tryd.ntmps13
        go_wp2_with (first | (go_at_call 35; refine Ht.out.mono ?_; rintro e w' ⟨rfl, rfl⟩) | (go_at_call 36; refine Hn.out.mono ?_; rintro e w' ⟨rfl, rfl⟩) | (go_at_call 33; refine Ho.out.mono ?_; rintro e w1 ⟨rfl, h10⟩; have h1 := Lib.hid h10; clear h10))
        go_ret
        exact ⟨rfl, h1.out⟩
      | false =>
        have e1 : Cur.name ⟨y :: rest, 0, l, cc⟩ = (⟨#[]⟩, Cur.fail ⟨y :: rest, 0, l, cc⟩ 7) := by simp [Cur.name, hy]
        rw [e1]
        clear h e2 e1
        go_enter Tryd.func13, Tryd.ntmps13
        go_wp2_with (first | (go_at_call 35; refine Ht.out.mono ?_; rintro e w' ⟨rfl, rfl⟩) | (go_at_call 36; refine Hn.out.mono ?_; rintro e w' ⟨rfl, rfl⟩) | (go_at_call 18; refine Hf.out.mono ?_; rintro e w1 ⟨rfl, h10⟩; have h1 := Lib.hid h10; clear h10))
        go_ret
        exact ⟨rfl, h1.out⟩
  · have Hf := Lib.hid (able_f h hw)
    have e1 : st.name = (⟨#[]⟩, st) := by simp [Cur.name, hw]
    rw [e1]
    have Fin := Lib.hid (show CSK w w b ib st from ⟨h, Keeps.refl _ _⟩)
    clear h hw e1
    go_enter Tryd.func13, Tryd.ntmps13
    go_wp2_with (first | (go_at_call 35; refine Hf.out.mono ?_; rintro e w' ⟨rfl, rfl⟩))
    go_ret
    exact ⟨rfl, Fin.out⟩

/-- Num: what it tells, and the state behind it -/
def Cur.num (st : Cur) (least most : Int) : Int × Cur := if st.wrong = 0 then match st.items with
  | [] => (0, st.fail 7)
  | y :: _ => if y.has.asNum.2 = true then if y.has.asNum.1 < least ∨ most < y.has.asNum.1 then (0, st.fail 3) else (y.has.asNum.1, st.over) else (0, st.fail 7)
  else (0, st)

theorem num_calls (h : CS w b ib st) (least most : Int) :
    Calls Tryd.prog 14 #[.pointer (some ⟨b, 0, none⟩), .int .i64 least, .int .i64 most] w fun e w' =>
      e = .returned (.int .i64 (st.num least most).1) ∧ CSK w w' b ib (st.num least most).2 := by
  by_cases hw : st.wrong = 0
  · have Ht := Lib.hid (able_t h hw)
    have Hn := Lib.hid (next_calls h)
    have Hf := Lib.hid (fail_calls h 7)
    obtain ⟨its, wrong, l, cc⟩ := st
    simp only at hw
    subst hw
    cases its with
    | nil =>
      have e2 : hasV (Cur.next ⟨[], 0, l, cc⟩) = .nilIface := rfl
      rw [e2] at Hn
      have e1 : Cur.num ⟨[], 0, l, cc⟩ least most = (0, Cur.fail ⟨[], 0, l, cc⟩ 7) := rfl
      rw [e1]
      clear h e2 e1
      go_enter Tryd.func14, Tryd.ntmps14
      go_wp2_with (first | (go_at_call 35; refine Ht.out.mono ?_; rintro e w' ⟨rfl, rfl⟩) | (go_at_call 36; refine Hn.out.mono ?_; rintro e w' ⟨rfl, rfl⟩) | (go_at_call 18; refine Hf.out.mono ?_; rintro e w1 ⟨rfl, h10⟩; have h1 := Lib.hid h10; clear h10))
      go_ret
      exact ⟨rfl, h1.out⟩
    | cons y rest =>
      have e2 : hasV (Cur.next ⟨y :: rest, 0, l, cc⟩) = y.has.v := rfl
      rw [e2] at Hn
      cases hy : y.has.asNum.2 with
      | true =>
        by_cases hlo : y.has.asNum.1 < least ∨ most < y.has.asNum.1
        · have e1 : Cur.num ⟨y :: rest, 0, l, cc⟩ least most = (0, Cur.fail ⟨y :: rest, 0, l, cc⟩ 3) := by simp [Cur.num, hy, hlo]
          rw [e1]
          clear Hf
          have Hf := Lib.hid (fail_calls h 3)
          clear h e2 e1
          rcases Int.lt_or_le y.has.asNum.1 least with h1 | h1
          · clear hlo
            go_enter Tryd.func14, Tryd.ntmps14
            go_wp2_with (first | (go_at_call 35; refine Ht.out.mono ?_; rintro e w' ⟨rfl, rfl⟩) | (go_at_call 36; refine Hn.out.mono ?_; rintro e w' ⟨rfl, rfl⟩) | (go_at_call 18; refine Hf.out.mono ?_; rintro e w1 ⟨rfl, h10⟩; have h1 := Lib.hid h10; clear h10))
            go_ret
            exact ⟨rfl, h1.out⟩
          · have h2 : most < y.has.asNum.1 := by omega
            clear hlo
            go_enter Tryd.func14, Tryd.ntmps14
            go_wp2_with (first | (go_at_call 35; refine Ht.out.mono ?_; rintro e w' ⟨rfl, rfl⟩) | (go_at_call 36; refine Hn.out.mono ?_; rintro e w' ⟨rfl, rfl⟩) | (go_at_call 18; refine Hf.out.mono ?_; rintro e w1 ⟨rfl, h10⟩; have h1 := Lib.hid h10; clear h10))
            go_ret
            exact ⟨rfl, h1.out⟩
        · have Ho := Lib.hid (over_calls h (by simp))
          have e1 : Cur.num ⟨y :: rest, 0, l, cc⟩ least most = (y.has.asNum.1, Cur.over ⟨y :: rest, 0, l, cc⟩) := by simp [Cur.num, hy, hlo]
          rw [e1]
          have h1 : least ≤ y.has.asNum.1 := by omega
          have h2 : y.has.asNum.1 ≤ most := by omega
          clear h e2 e1 Hf hlo
          go_enter Tryd.func14, Tryd.ntmps14
          go_wp2_with (first | (go_at_call 35; refine Ht.out.mono ?_; rintro e w' ⟨rfl, rfl⟩) | (go_at_call 36; refine Hn.out.mono ?_; rintro e w' ⟨rfl, rfl⟩) | (go_at_call 33; refine Ho.out.mono ?_; rintro e w1 ⟨rfl, h10⟩; have h1 := Lib.hid h10; clear h10))
          go_ret
          exact ⟨rfl, h1.out⟩
      | false =>
        have e1 : Cur.num ⟨y :: rest, 0, l, cc⟩ least most = (0, Cur.fail ⟨y :: rest, 0, l, cc⟩ 7) := by simp [Cur.num, hy]
        rw [e1]
        clear h e2 e1
        go_enter Tryd.func14, Tryd.ntmps14
        go_wp2_with (first | (go_at_call 35; refine Ht.out.mono ?_; rintro e w' ⟨rfl, rfl⟩) | (go_at_call 36; refine Hn.out.mono ?_; rintro e w' ⟨rfl, rfl⟩) | (go_at_call 18; refine Hf.out.mono ?_; rintro e w1 ⟨rfl, h10⟩; have h1 := Lib.hid h10; clear h10))
        go_ret
        exact ⟨rfl, h1.out⟩
  · have Hf := Lib.hid (able_f h hw)
    have e1 : st.num least most = (0, st) := by simp [Cur.num, hw]
    rw [e1]
    have Fin := Lib.hid (show CSK w w b ib st from ⟨h, Keeps.refl _ _⟩)
    clear h hw e1
    go_enter Tryd.func14, Tryd.ntmps14
    go_wp2_with (first | (go_at_call 35; refine Hf.out.mono ?_; rintro e w' ⟨rfl, rfl⟩))
    go_ret
    exact ⟨rfl, Fin.out⟩

end
end Go.Proofs.YtoibcaoaljglbaaDoor
