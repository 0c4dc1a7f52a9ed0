/-
  No cursor (nil, or one that was not made by Over): the contracts of its methods.
-/
import Derived.Test.YtoibcaoaljglbaaDoorLineG
namespace Go.Proofs.YtoibcaoaljglbaaDoor
open Go Go.RowKit
set_option linter.unusedSimpArgs false

/-- no cursor -/
def DeadC (w : World) (p : Option Addr) : Prop := p = none ∨ ∃ b, p = some ⟨b, 0, none⟩ ∧ w.cell? ⟨b, 4, none⟩ = some (.bool false)

theorem DeadC.keep0 {w w' : World} {p : Option Addr} (h : DeadC w p) (hk : Keeps (fun _ => False) w w') : DeadC w' p := by
  rcases h with rfl | ⟨b, rfl, h⟩
  · exact Or.inl rfl
  · exact Or.inr ⟨b, rfl, hk.cell' h (by simp)⟩

section
set_option maxRecDepth 100000
set_option maxHeartbeats 1000000
variable {w : World} {p : Option Addr}

theorem dead_able (h : DeadC w p) : Calls Tryd.prog 35 #[.pointer p] w fun e w' => e = .returned (.bool false) ∧ w = w' := by
  rcases h with rfl | ⟨b, rfl, h⟩
  · go_enter Tryd.func35, Tryd.ntmps35
    go_wp2
    go_ret
    exact ⟨rfl, rfl⟩
  · go_enter Tryd.func35, Tryd.ntmps35
    go_wp2
    go_ret
    exact ⟨rfl, rfl⟩

theorem dead_more (h : DeadC w p) : Calls Tryd.prog 11 #[.pointer p] w fun e w' => e = .returned (.bool false) ∧ w = w' := by
  have Ha := Lib.hid (dead_able h)
  clear h
  go_enter Tryd.func11, Tryd.ntmps11
  go_wp2_with (first | (go_at_call 35; refine Ha.out.mono ?_; rintro e w' ⟨rfl, rfl⟩))
  go_ret
  exact ⟨rfl, rfl⟩

theorem dead_ends (h : DeadC w p) : Calls Tryd.prog 43 #[.pointer p] w fun e w' => e = .returned (.bool true) ∧ w = w' := by
  have Ha := Lib.hid (dead_more h)
  clear h
  go_enter Tryd.func43, Tryd.ntmps43
  go_wp2_with (first | (go_at_call 11; refine Ha.out.mono ?_; rintro e w' ⟨rfl, rfl⟩))
  go_ret
  exact ⟨rfl, rfl⟩

theorem dead_peek (h : DeadC w p) : Calls Tryd.prog 45 #[.pointer p] w fun e w' => e = .returned (.string ⟨#[]⟩) ∧ w = w' := by
  have Ha := Lib.hid (dead_able h)
  clear h
  go_enter Tryd.func45, Tryd.ntmps45
  go_wp2_with (first | (go_at_call 35; refine Ha.out.mono ?_; rintro e w' ⟨rfl, rfl⟩))
  go_ret
  exact ⟨rfl, rfl⟩

theorem dead_is (h : DeadC w p) (v : Value) : Calls Tryd.prog 37 #[.pointer p, v] w fun e w' => e = .returned (.bool false) ∧ w = w' := by
  have Ha := Lib.hid (dead_able h)
  clear h
  go_enter Tryd.func37, Tryd.ntmps37
  go_wp2_with (first | (go_at_call 35; refine Ha.out.mono ?_; rintro e w' ⟨rfl, rfl⟩))
  go_ret
  exact ⟨rfl, rfl⟩

theorem dead_key (h : DeadC w p) (s : ByteArray) : Calls Tryd.prog 39 #[.pointer p, .string s] w fun e w' => e = .returned (.bool false) ∧ w = w' := by
  have Ha := Lib.hid (fun v => dead_is h v)
  clear h
  go_enter Tryd.func39, Tryd.ntmps39
  go_wp2_with (first | (go_at_call 37; refine (Ha.out _).mono ?_; rintro e w' ⟨rfl, rfl⟩))
  go_ret
  exact ⟨rfl, rfl⟩

theorem dead_Is (h : DeadC w p) (s : ByteArray) : Calls Tryd.prog 15 #[.pointer p, .string s] w fun e w' => e = .returned (.bool false) ∧ w = w' := by
  have Ha := Lib.hid (fun v => dead_is h v)
  clear h
  go_enter Tryd.func15, Tryd.ntmps15
  go_wp2_with (first | (go_at_call 37; refine (Ha.out _).mono ?_; rintro e w' ⟨rfl, rfl⟩))
  go_ret
  exact ⟨rfl, rfl⟩

theorem dead_fail (h : DeadC w p) (x : Int) : Calls Tryd.prog 18 #[.pointer p, .int .i64 x] w fun e w' => e = .returned (.tuple #[]) ∧ w = w' := by
  have Ha := Lib.hid (dead_able h)
  clear h
  go_enter Tryd.func18, Tryd.ntmps18
  go_wp2_with (first | (go_at_call 35; refine Ha.out.mono ?_; rintro e w' ⟨rfl, rfl⟩))
  go_end0
  exact ⟨rfl, rfl⟩

theorem dead_name (h : DeadC w p) : Calls Tryd.prog 13 #[.pointer p] w fun e w' => e = .returned (.string ⟨#[]⟩) ∧ w = w' := by
  have Ha := Lib.hid (dead_able h)
  clear h
  go_enter Tryd.func13, Tryd.ntmps13
  go_wp2_with (first | (go_at_call 35; refine Ha.out.mono ?_; rintro e w' ⟨rfl, rfl⟩))
  go_ret
  exact ⟨rfl, rfl⟩

theorem dead_num (h : DeadC w p) (a b : Int) : Calls Tryd.prog 14 #[.pointer p, .int .i64 a, .int .i64 b] w fun e w' => e = .returned (.int .i64 0) ∧ w = w' := by
  have Ha := Lib.hid (dead_able h)
  clear h
  go_enter Tryd.func14, Tryd.ntmps14
  go_wp2_with (first | (go_at_call 35; refine Ha.out.mono ?_; rintro e w' ⟨rfl, rfl⟩))
  go_ret
  exact ⟨rfl, rfl⟩

theorem dead_end (h : DeadC w p) : Calls Tryd.prog 12 #[.pointer p] w fun e w' => e = .returned (.tuple #[]) ∧ w = w' := by
  have Ha := Lib.hid (dead_more h)
  clear h
  go_enter Tryd.func12, Tryd.ntmps12
  go_wp2_with (first | (go_at_call 11; refine Ha.out.mono ?_; rintro e w' ⟨rfl, rfl⟩))
  go_end0
  exact ⟨rfl, rfl⟩

theorem dead_err (h : DeadC w p) : Calls Tryd.prog 10 #[.pointer p] w fun e w' => e = .returned (.tuple #[.int .i64 0, .int .i64 0, .int .i64 1]) ∧ w = w' := by
  rcases h with rfl | ⟨b, rfl, h⟩
  · go_enter Tryd.func10, Tryd.ntmps10
    go_wp2
    go_ret3
    exact ⟨rfl, rfl⟩
  · go_enter Tryd.func10, Tryd.ntmps10
    go_wp2
    go_ret3
    exact ⟨rfl, rfl⟩

theorem dead_mark (h : DeadC w p) (sb off : Nat) (ss : List ByteArray) (hs : StrsAt w sb off ss) (hl : ss.length ≤ 4611686018427387904) (cap : Nat) :
    Calls Tryd.prog 23 #[.pointer p, .slice (some ⟨sb, off, none⟩) ss.length cap] w fun e w' => e = .returned (.tuple #[]) ∧ Keeps (fun _ => False) w w' := by
  have Hs := Lib.hid hs
  have Hd := Lib.hid h
  clear h hs
  go_enter Tryd.func23, Tryd.ntmps23
  go_wp2
  go_loopw [8] (fun i wr => ∃ k : Nat, k ≤ ss.length ∧ i = .int .i64 k ∧ Hid (Keeps (fun _ => False) w wr)) (fun i _ => ss.length - (intOf i).toNat)
  case atStart => exact ⟨0, Nat.zero_le _, rfl, Lib.hid (Keeps.refl _ _)⟩
  case round =>
    obtain ⟨k, hk, rfl, H⟩ := hrel
    by_cases hlt : k < ss.length
    · have hsk : ss[k]? = some ss[k] := by simp [hlt]
      have hcell := Hs.out.keeps H.out (by simp) k _ hsk
      generalize ss[k] = s at *
      have Hi := Lib.hid (dead_Is (Hd.out.keep0 H.out) s)
      have Hf := Lib.hid (dead_fail (Hd.out.keep0 H.out) 7)
      clear hsk
      go_wp2_with (first | (go_at_call 15; refine Hi.out.mono ?_; rintro e w' ⟨rfl, rfl⟩) | (go_at_call 18; refine Hf.out.mono ?_; rintro e w' ⟨rfl, rfl⟩))
      go_roundw
      case rel => exact ⟨k + 1, by omega, by go_num, H⟩
      case measure => simp [intOf]; omega
    · have hk2 : k = ss.length := by omega
      subst hk2
      go_wp2
      go_end0
      exact ⟨rfl, H.out⟩

end
end Go.Proofs.YtoibcaoaljglbaaDoor
