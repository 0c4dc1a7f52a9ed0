
/-
  MachFew: the walk.
-/
import Derived.Test.YtfpjdgobannneaaDoorMachK
namespace Go.Proofs.YtfpjdgobannneaaDoor
open Go Go.RowKit
set_option linter.unusedSimpArgs false

/-- while the law runs: the machine lies in block mb -/
structure FW (w W : World) (mb : Nat) (m : Mch) (A : Option Addr) (ca : Nat) (S : Option Addr) (cs : Nat) : Prop where
  at_ : MachAt W mb m A ca S cs
  ks : Keeps (fun _ => False) w W

theorem FW.keep {w W W' : World} {mb : Nat} {m : Mch} {A : Option Addr} {ca : Nat} {S : Option Addr} {cs : Nat} (h : FW w W mb m A ca S cs) (k : Keeps (fun _ => False) W W') : FW w W' mb m A ca S cs :=
  ⟨h.at_.keep0 k, h.ks.trans k⟩

/-- has it enough? -/
def ETold (b : Bool) (m : Mch) (o a : Int) : Prop := b = true ↔ EnoughM m o a

theorem eTold_no {m : Mch} {o a : Int} (h : ¬ EnoughM m o a) : ETold false m o a := ⟨fun q => (by cases q), fun q => absurd q h⟩
theorem eTold_yes {m : Mch} {o a : Int} (h : EnoughM m o a) : ETold true m o a := ⟨fun _ => h, fun _ => rfl⟩

section
set_option maxRecDepth 100000
set_option maxHeartbeats 4000000

theorem few_calls (m : Mch) (o a : Int) (ho : -9223372036854775808 ≤ o ∧ o ≤ 9223372036854775807) (ha : -9223372036854775808 ≤ a ∧ a ≤ 9223372036854775807) (A : Option Addr) (ca : Nat) (S : Option Addr) (cs : Nat) (w : World) (hG : Glob w) (h4 : 4 ≤ w.heap.size)
    (hA : IntsAt w A m.args) (hS : IntsAt w S m.saved) (hla : m.args.length ≤ 140737488355328) (hls : m.saved.length ≤ 140737488355328) :
    Calls Tryd.prog 3 #[m.V A ca S cs, .int .i64 o, .int .i64 a] w fun e w' => e = .returned (.bool true) ∧ Keeps (fun _ => False) w w' := by
  have k0 := (Keeps.refl (fun _ => False) w).alloc (.cells #[.int .i64 m.regs, .slice A m.args.length ca, .int .i64 m.ret, .slice S m.saved.length cs] 24)
  have H := Lib.hid (FW.mk (MachAt.new ca cs hA hS) k0)
  have Haw := Lib.hid (mawake_calls (w.alloc (.cells #[.int .i64 m.regs, .slice A m.args.length ca, .int .i64 m.ret, .slice S m.saved.length cs] 24)) (hG.keeps k0 (by simp)) (by simp; omega))
  clear k0 hG h4 hA hS
  simp only [Mch.V]
  have qs : IntKind.i64.wrap ((m.args.length : Int) + m.saved.length) = m.args.length + m.saved.length := IntWalk.i64_in _ (by omega)
  by_cases hlong : (2000 : Int) < m.args.length + m.saved.length
  · have hgt : ((m.args.length : Int) + m.saved.length > 2000) = True := eq_true hlong
    clear hla hls hlong ho ha
    go_enter Tryd.func3, Tryd.ntmps3
    go_wp2_with (first | (go_at_call 5; refine Haw.out.mono ?_; rintro e w1 ⟨rfl, k⟩; replace H := Lib.hid (H.out.keep k); have c1 := H.out.at_.c1; have c3 := H.out.at_.c3; clear k Haw))
    go_ret
    exact ⟨rfl, H.out.ks⟩
  · have hgt : ((m.args.length : Int) + m.saved.length > 2000) = False := eq_false hlong
    have Hla := Lib.hid (show m.args.length ≤ 1000000000 from by omega)
    have Hls := Lib.hid (show m.saved.length ≤ 1000000000 from by omega)
    clear hla hls hlong
    by_cases ho0 : o = -9223372036854775808
    · subst ho0
      clear ho ha
      go_enter Tryd.func3, Tryd.ntmps3
      go_wp2_with (first | (go_at_call 5; refine Haw.out.mono ?_; rintro e w1 ⟨rfl, k⟩; replace H := Lib.hid (H.out.keep k); have c1 := H.out.at_.c1; have c3 := H.out.at_.c3; clear k Haw))
      go_ret
      exact ⟨rfl, H.out.ks⟩
    · have hob : (o == -9223372036854775808) = false := beq_eq_false_iff_ne.2 ho0
      by_cases ha0 : a = -9223372036854775808
      · subst ha0
        clear ho ha ho0
        go_enter Tryd.func3, Tryd.ntmps3
        go_wp2_with (first | (go_at_call 5; refine Haw.out.mono ?_; rintro e w1 ⟨rfl, k⟩; replace H := Lib.hid (H.out.keep k); have c1 := H.out.at_.c1; have c3 := H.out.at_.c3; clear k Haw))
        go_ret
        exact ⟨rfl, H.out.ks⟩
      · have hab : (a == -9223372036854775808) = false := beq_eq_false_iff_ne.2 ha0
        have qo : IntKind.i64.wrap (o - 1) = o - 1 := IntWalk.i64_in _ (by omega)
        have qa : IntKind.i64.wrap (a - 1) = a - 1 := IntWalk.i64_in _ (by omega)
        have ql : IntKind.i64.wrap ((m.args.length : Int) + 1) = m.args.length + 1 := IntWalk.i64_in _ (by have := Hla.out; omega)
        clear ho ha ho0 ha0
        by_cases hr : RightM m
        · have hr1 := hr.1
          have hr2 := hr.2.1
          have qr : IntKind.i64.wrap (m.regs - 1) = m.regs - 1 := IntWalk.i64_in _ (by omega)
          have Hr := Lib.hid (show RTold true m from ⟨fun _ => hr, fun _ => rfl⟩)
          have E3 := Lib.hid (eTold_yes (m := m) (o := m.regs - 1) (a := m.args.length) ⟨hr, by omega, by omega⟩)
          have E4 := Lib.hid (eTold_no (m := m) (o := m.regs) (a := 0) (fun h => by have := h.2.1; omega))
          have E5 := Lib.hid (eTold_no (m := m) (o := 0) (a := (m.args.length : Int) + 1) (fun h => by have := h.2.2; omega))
          by_cases he : EnoughM m o a
          · have E0 := Lib.hid (eTold_yes he)
            have E1 := Lib.hid (eTold_yes (m := m) (o := o - 1) (a := a) ⟨hr, by have := he.2.1; omega, he.2.2⟩)
            have E2 := Lib.hid (eTold_yes (m := m) (o := o) (a := a - 1) ⟨hr, he.2.1, by have := he.2.2; omega⟩)
            clear hr he hr1 hr2
            go_enter Tryd.func3, Tryd.ntmps3
            go_wp2_with (first | (go_at_call 5; refine Haw.out.mono ?_; rintro e w1 ⟨rfl, k⟩; replace H := Lib.hid (H.out.keep k); have c0 := H.out.at_.c0; have c1 := H.out.at_.c1; have c2 := H.out.at_.c2; have c3 := H.out.at_.c3; clear k Haw) | (go_at_call 7; have m5 := right_says true m Hr.out A ca S cs _ H.out.at_.args H.out.at_.saved Hla.out Hls.out; simp only [Mch.V] at m5; refine m5.mono ?_; clear m5; rintro e w5 ⟨rfl, k⟩; replace H := Lib.hid (H.out.keep k); clear c0 c1 c2 c3; have c0 := H.out.at_.c0; have c1 := H.out.at_.c1; have c2 := H.out.at_.c2; have c3 := H.out.at_.c3; clear k) | (go_at_call 6; have m5 := enough_says true m o a E0.out A ca S cs _ H.out.at_.args H.out.at_.saved Hla.out Hls.out; simp only [Mch.V] at m5; (with_reducible refine m5.mono ?_); clear m5; rintro e w5 ⟨rfl, k⟩; replace H := Lib.hid (H.out.keep k); clear c0 c1 c2 c3; have c0 := H.out.at_.c0; have c1 := H.out.at_.c1; have c2 := H.out.at_.c2; have c3 := H.out.at_.c3; clear k) | (go_at_call 6; have m5 := enough_says true m (o - 1) a E1.out A ca S cs _ H.out.at_.args H.out.at_.saved Hla.out Hls.out; simp only [Mch.V] at m5; (with_reducible refine m5.mono ?_); clear m5; rintro e w5 ⟨rfl, k⟩; replace H := Lib.hid (H.out.keep k); clear c0 c1 c2 c3; have c0 := H.out.at_.c0; have c1 := H.out.at_.c1; have c2 := H.out.at_.c2; have c3 := H.out.at_.c3; clear k) | (go_at_call 6; have m5 := enough_says true m o (a - 1) E2.out A ca S cs _ H.out.at_.args H.out.at_.saved Hla.out Hls.out; simp only [Mch.V] at m5; (with_reducible refine m5.mono ?_); clear m5; rintro e w5 ⟨rfl, k⟩; replace H := Lib.hid (H.out.keep k); clear c0 c1 c2 c3; have c0 := H.out.at_.c0; have c1 := H.out.at_.c1; have c2 := H.out.at_.c2; have c3 := H.out.at_.c3; clear k) | (go_at_call 6; have m5 := enough_says true m (m.regs - 1) (m.args.length : Int) E3.out A ca S cs _ H.out.at_.args H.out.at_.saved Hla.out Hls.out; simp only [Mch.V] at m5; (with_reducible refine m5.mono ?_); clear m5; rintro e w5 ⟨rfl, k⟩; replace H := Lib.hid (H.out.keep k); clear c0 c1 c2 c3; have c0 := H.out.at_.c0; have c1 := H.out.at_.c1; have c2 := H.out.at_.c2; have c3 := H.out.at_.c3; clear k) | (go_at_call 6; have m5 := enough_says false m m.regs 0 E4.out A ca S cs _ H.out.at_.args H.out.at_.saved Hla.out Hls.out; simp only [Mch.V] at m5; (with_reducible refine m5.mono ?_); clear m5; rintro e w5 ⟨rfl, k⟩; replace H := Lib.hid (H.out.keep k); clear c0 c1 c2 c3; have c0 := H.out.at_.c0; have c1 := H.out.at_.c1; have c2 := H.out.at_.c2; have c3 := H.out.at_.c3; clear k) | (go_at_call 6; have m5 := enough_says false m 0 ((m.args.length : Int) + 1) E5.out A ca S cs _ H.out.at_.args H.out.at_.saved Hla.out Hls.out; simp only [Mch.V] at m5; (with_reducible refine m5.mono ?_); clear m5; rintro e w5 ⟨rfl, k⟩; replace H := Lib.hid (H.out.keep k); clear c0 c1 c2 c3; have c0 := H.out.at_.c0; have c1 := H.out.at_.c1; have c2 := H.out.at_.c2; have c3 := H.out.at_.c3; clear k))
            go_ret
            exact ⟨rfl, H.out.ks⟩
          · have E0 := Lib.hid (eTold_no he)
            clear hr he hr1 hr2
            go_enter Tryd.func3, Tryd.ntmps3
            go_wp2_with (first | (go_at_call 5; refine Haw.out.mono ?_; rintro e w1 ⟨rfl, k⟩; replace H := Lib.hid (H.out.keep k); have c0 := H.out.at_.c0; have c1 := H.out.at_.c1; have c2 := H.out.at_.c2; have c3 := H.out.at_.c3; clear k Haw) | (go_at_call 7; have m5 := right_says true m Hr.out A ca S cs _ H.out.at_.args H.out.at_.saved Hla.out Hls.out; simp only [Mch.V] at m5; refine m5.mono ?_; clear m5; rintro e w5 ⟨rfl, k⟩; replace H := Lib.hid (H.out.keep k); clear c0 c1 c2 c3; have c0 := H.out.at_.c0; have c1 := H.out.at_.c1; have c2 := H.out.at_.c2; have c3 := H.out.at_.c3; clear k) | (go_at_call 6; have m5 := enough_says false m o a E0.out A ca S cs _ H.out.at_.args H.out.at_.saved Hla.out Hls.out; simp only [Mch.V] at m5; (with_reducible refine m5.mono ?_); clear m5; rintro e w5 ⟨rfl, k⟩; replace H := Lib.hid (H.out.keep k); clear c0 c1 c2 c3; have c0 := H.out.at_.c0; have c1 := H.out.at_.c1; have c2 := H.out.at_.c2; have c3 := H.out.at_.c3; clear k) | (go_at_call 6; have m5 := enough_says true m (m.regs - 1) (m.args.length : Int) E3.out A ca S cs _ H.out.at_.args H.out.at_.saved Hla.out Hls.out; simp only [Mch.V] at m5; (with_reducible refine m5.mono ?_); clear m5; rintro e w5 ⟨rfl, k⟩; replace H := Lib.hid (H.out.keep k); clear c0 c1 c2 c3; have c0 := H.out.at_.c0; have c1 := H.out.at_.c1; have c2 := H.out.at_.c2; have c3 := H.out.at_.c3; clear k) | (go_at_call 6; have m5 := enough_says false m m.regs 0 E4.out A ca S cs _ H.out.at_.args H.out.at_.saved Hla.out Hls.out; simp only [Mch.V] at m5; (with_reducible refine m5.mono ?_); clear m5; rintro e w5 ⟨rfl, k⟩; replace H := Lib.hid (H.out.keep k); clear c0 c1 c2 c3; have c0 := H.out.at_.c0; have c1 := H.out.at_.c1; have c2 := H.out.at_.c2; have c3 := H.out.at_.c3; clear k) | (go_at_call 6; have m5 := enough_says false m 0 ((m.args.length : Int) + 1) E5.out A ca S cs _ H.out.at_.args H.out.at_.saved Hla.out Hls.out; simp only [Mch.V] at m5; (with_reducible refine m5.mono ?_); clear m5; rintro e w5 ⟨rfl, k⟩; replace H := Lib.hid (H.out.keep k); clear c0 c1 c2 c3; have c0 := H.out.at_.c0; have c1 := H.out.at_.c1; have c2 := H.out.at_.c2; have c3 := H.out.at_.c3; clear k))
            go_ret
            exact ⟨rfl, H.out.ks⟩
        · have Hr := Lib.hid (show RTold false m from ⟨fun h => (by cases h), fun h => absurd h hr⟩)
          have E0 := Lib.hid (eTold_no (m := m) (o := o) (a := a) (fun h => hr h.1))
          clear hr
          go_enter Tryd.func3, Tryd.ntmps3
          go_wp2_with (first | (go_at_call 5; refine Haw.out.mono ?_; rintro e w1 ⟨rfl, k⟩; replace H := Lib.hid (H.out.keep k); have c0 := H.out.at_.c0; have c1 := H.out.at_.c1; have c2 := H.out.at_.c2; have c3 := H.out.at_.c3; clear k Haw) | (go_at_call 7; have m5 := right_says false m Hr.out A ca S cs _ H.out.at_.args H.out.at_.saved Hla.out Hls.out; simp only [Mch.V] at m5; refine m5.mono ?_; clear m5; rintro e w5 ⟨rfl, k⟩; replace H := Lib.hid (H.out.keep k); clear c0 c1 c2 c3; have c0 := H.out.at_.c0; have c1 := H.out.at_.c1; have c2 := H.out.at_.c2; have c3 := H.out.at_.c3; clear k) | (go_at_call 6; have m5 := enough_says false m o a E0.out A ca S cs _ H.out.at_.args H.out.at_.saved Hla.out Hls.out; simp only [Mch.V] at m5; (with_reducible refine m5.mono ?_); clear m5; rintro e w5 ⟨rfl, k⟩; replace H := Lib.hid (H.out.keep k); clear c0 c1 c2 c3; have c0 := H.out.at_.c0; have c1 := H.out.at_.c1; have c2 := H.out.at_.c2; have c3 := H.out.at_.c3; clear k))
          go_ret
          exact ⟨rfl, H.out.ks⟩

end
end Go.Proofs.YtfpjdgobannneaaDoor
