
/-
  intarsialaw05.same: its contract.
-/
import Derived.Test.YtfpjdgobannneaaDoorMachK
namespace Go.Proofs.YtfpjdgobannneaaDoor
open Go Go.RowKit
set_option linter.unusedSimpArgs false

section
set_option maxRecDepth 100000
set_option maxHeartbeats 4000000

/-- two machines that lie in memory, in blocks of their own -/
structure TwoAt (w W : World) (m n : Mch) (A : Option Addr) (ca : Nat) (S : Option Addr) (cs : Nat) (B : Option Addr) (cb : Nat) (T : Option Addr) (ct : Nat) : Prop where
  one : MachAt W w.heap.size m A ca S cs
  two : MachAt W (w.heap.size + 1) n B cb T ct
  ks : Keeps (fun _ => False) w W

theorem TwoAt.keep {w W W' : World} {m n : Mch} {A : Option Addr} {ca : Nat} {S : Option Addr} {cs : Nat} {B : Option Addr} {cb : Nat} {T : Option Addr} {ct : Nat} (h : TwoAt w W m n A ca S cs B cb T ct) (k : Keeps (fun _ => False) W W') : TwoAt w W' m n A ca S cs B cb T ct :=
  ⟨h.one.keep0 k, h.two.keep0 k, h.ks.trans k⟩

theorem same_says (b : Bool) (m n : Mch) (hb : b = true ↔ m = n) (A : Option Addr) (ca : Nat) (S : Option Addr) (cs : Nat) (B : Option Addr) (cb : Nat) (T : Option Addr) (ct : Nat) (w : World)
    (hA : IntsAt w A m.args) (hS : IntsAt w S m.saved) (hB : IntsAt w B n.args) (hT : IntsAt w T n.saved) (h1 : m.args.length ≤ 1000000000) (h2 : m.saved.length ≤ 1000000000) (h3 : n.args.length ≤ 1000000000) (h4 : n.saved.length ≤ 1000000000) :
    Calls Tryd.prog 10 #[m.V A ca S cs, n.V B cb T ct] w fun e w' => e = .returned (.bool b) ∧ Keeps (fun _ => False) w w' := by
  obtain ⟨r1, a1, t1, s1⟩ := m
  obtain ⟨r2, a2, t2, s2⟩ := n
  simp only at hA hS hB hT h1 h2 h3 h4
  have k0 := (Keeps.refl (fun _ => False) w).alloc (.cells #[.int .i64 r1, .slice A a1.length ca, .int .i64 t1, .slice S s1.length cs] 24)
  have m1 := MachAt.new (m := ⟨r1, a1, t1, s1⟩) ca cs hA hS
  have m2 := MachAt.new (m := ⟨r2, a2, t2, s2⟩) cb ct (hB.keep0 k0) (hT.keep0 k0)
  have k1 := (Keeps.refl (fun _ => False) (w.alloc (.cells #[.int .i64 r1, .slice A a1.length ca, .int .i64 t1, .slice S s1.length cs] 24))).alloc (.cells #[.int .i64 r2, .slice B a2.length cb, .int .i64 t2, .slice T s2.length ct] 24)
  have hq : (w.alloc (.cells #[.int .i64 r1, .slice A a1.length ca, .int .i64 t1, .slice S s1.length cs] 24)).heap.size = w.heap.size + 1 := by simp
  have H := Lib.hid (TwoAt.mk (m1.keep0 k1) (by rw [← hq]; exact m2) (k0.trans k1))
  have c0 := H.out.one.c0
  have c1 := H.out.one.c1
  have c2 := H.out.one.c2
  have c3 := H.out.one.c3
  have d0 := H.out.two.c0
  have d1 := H.out.two.c1
  have d2 := H.out.two.c2
  have d3 := H.out.two.c3
  simp only at c0 c1 c2 c3 d0 d1 d2 d3
  have H1 := Lib.hid h1
  have H2 := Lib.hid h2
  have H3 := Lib.hid h3
  have H4 := Lib.hid h4
  clear k0 m1 m2 k1 hq hA hS hB hT h1 h2 h3 h4
  simp only [Mch.V]
  have hiff : (⟨r1, a1, t1, s1⟩ : Mch) = ⟨r2, a2, t2, s2⟩ ↔ r1 = r2 ∧ t1 = t2 ∧ a1 = a2 ∧ s1 = s2 := by
    constructor
    · intro e
      injection e with e1 e2 e3 e4
      exact ⟨e1, e3, e2, e4⟩
    · rintro ⟨rfl, rfl, rfl, rfl⟩
      rfl
  rw [hiff] at hb
  by_cases q1 : r1 = r2
  · by_cases q2 : t1 = t2
    · by_cases q3 : a1 = a2
      · have E1 := Lib.hid (show SameTold true a1 a2 from ⟨fun _ => q3, fun _ => rfl⟩)
        have E2 := Lib.hid (show SameTold b s1 s2 from by
          rw [show (r1 = r2 ∧ t1 = t2 ∧ a1 = a2 ∧ s1 = s2) ↔ s1 = s2 from ⟨fun h => h.2.2.2, fun h => ⟨q1, q2, q3, h⟩⟩] at hb
          exact hb)
        have z1 : (r1 == r2) = true := beq_iff_eq.2 q1
        have z2 : (t1 == t2) = true := beq_iff_eq.2 q2
        clear hb hiff q1 q2 q3
        go_enter Tryd.func10, Tryd.ntmps10
        go_wp2_with (first | (go_at_call 14; have m5 := sameints_says true a1 a2 E1.out A ca B cb _ H.out.one.args H.out.two.args H1.out H3.out; (with_reducible refine m5.mono ?_); clear m5; rintro e w5 ⟨rfl, k⟩; replace H := Lib.hid (H.out.keep k); clear c3 d3; have c3 := H.out.one.c3; have d3 := H.out.two.c3; clear k E1) | (go_at_call 14; have m5 := sameints_says b s1 s2 E2.out S cs T ct _ H.out.one.saved H.out.two.saved H2.out H4.out; (with_reducible refine m5.mono ?_); clear m5; rintro e w5 ⟨rfl, k⟩; replace H := Lib.hid (H.out.keep k); clear c3 d3; clear k E2))
        go_ret
        exact ⟨rfl, H.out.ks⟩
      · have E1 := Lib.hid (show SameTold false a1 a2 from ⟨fun h => (by cases h), fun h => absurd h q3⟩)
        have eb := bool_false hb (fun h => q3 h.2.2.1)
        subst eb
        have z1 : (r1 == r2) = true := beq_iff_eq.2 q1
        have z2 : (t1 == t2) = true := beq_iff_eq.2 q2
        clear hb hiff q1 q2 q3
        go_enter Tryd.func10, Tryd.ntmps10
        go_wp2_with (first | (go_at_call 14; have m5 := sameints_says false a1 a2 E1.out A ca B cb _ H.out.one.args H.out.two.args H1.out H3.out; (with_reducible refine m5.mono ?_); clear m5; rintro e w5 ⟨rfl, k⟩; replace H := Lib.hid (H.out.keep k); clear k E1))
        go_ret
        exact ⟨rfl, H.out.ks⟩
    · have eb := bool_false hb (fun h => q2 h.2.1)
      subst eb
      have z1 : (r1 == r2) = true := beq_iff_eq.2 q1
      have z2 : (t1 == t2) = false := beq_eq_false_iff_ne.2 q2
      clear hb hiff q1 q2
      go_enter Tryd.func10, Tryd.ntmps10
      go_wp2
      go_ret
      exact ⟨rfl, H.out.ks⟩
  · have eb := bool_false hb (fun h => q1 h.1)
    subst eb
    have z1 : (r1 == r2) = false := beq_eq_false_iff_ne.2 q1
    clear hb hiff q1
    go_enter Tryd.func10, Tryd.ntmps10
    go_wp2
    go_ret
    exact ⟨rfl, H.out.ks⟩

end
end Go.Proofs.YtfpjdgobannneaaDoor
