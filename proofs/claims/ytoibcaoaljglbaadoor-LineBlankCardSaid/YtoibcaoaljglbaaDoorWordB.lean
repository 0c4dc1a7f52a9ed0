/-
  The contracts of Letter, digit, Sign, and of the reader's begin.
-/
import Derived.Test.YtoibcaoaljglbaaDoorWordA
namespace Go.Proofs.YtoibcaoaljglbaaDoor
open Go Go.RowKit

def letterB (r : Int) : Bool := r == 95 || (decide (97 ≤ r) && decide (r ≤ 122)) || (decide (945 ≤ r) && decide (r ≤ 969))

def digitB (r : Int) : Bool := decide (48 ≤ r) && decide (r ≤ 57)

def signB (r : Int) : Bool := r == 61 || r == 44 || r == 58 || r == 40 || r == 41 || r == 91 || r == 93 || r == 43 || r == 8594 || r == 8592 || r == 183

theorem digit_t (r : Int) (w : World) (h : digitB r = true) : Calls Tryd.prog 59 #[.int .i32 r] w fun e w' => e = .returned (.bool true) ∧ w = w' := by
  have h1 : 48 ≤ r ∧ r ≤ 57 := by simpa [digitB] using h
  obtain ⟨h1, h2⟩ := h1
  clear h
  go_enter Tryd.func59, Tryd.ntmps59
  go_wp2
  go_ret
  exact ⟨rfl, rfl⟩

theorem digit_f (r : Int) (w : World) (h : digitB r = false) : Calls Tryd.prog 59 #[.int .i32 r] w fun e w' => e = .returned (.bool false) ∧ w = w' := by
  have h1 : r < 48 ∨ 57 < r := by
    simp [digitB] at h
    omega
  clear h
  rcases h1 with h1 | h1
  · go_enter Tryd.func59, Tryd.ntmps59
    go_wp2
    go_ret
    exact ⟨rfl, rfl⟩
  · have h2 : 48 ≤ r := by omega
    have h3 : decide (r ≤ 57) = false := by simp; omega
    go_enter Tryd.func59, Tryd.ntmps59
    go_wp2
    go_ret
    exact ⟨rfl, rfl⟩

theorem Letter_t (r : Int) (w : World) (h : letterB r = true) : Calls Tryd.prog 58 #[.int .i32 r] w fun e w' => e = .returned (.bool true) ∧ w = w' := by
  have h1 : r = 95 ∨ (97 ≤ r ∧ r ≤ 122) ∨ (945 ≤ r ∧ r ≤ 969) := by
    simp [letterB] at h
    omega
  clear h
  rcases h1 with h1 | h1 | h1
  · subst h1
    go_enter Tryd.func58, Tryd.ntmps58
    go_wp2
    go_ret
    exact ⟨rfl, rfl⟩
  · obtain ⟨h1, h2⟩ := h1
    have h3 : (r == 95) = false := by simp; omega
    go_enter Tryd.func58, Tryd.ntmps58
    go_wp2
    go_ret
    exact ⟨rfl, rfl⟩
  · obtain ⟨h1, h2⟩ := h1
    have h3 : (r == 95) = false := by simp; omega
    have h4 : 97 ≤ r := by omega
    have h5 : ¬ r ≤ 122 := by omega
    go_enter Tryd.func58, Tryd.ntmps58
    go_wp2
    go_ret
    exact ⟨rfl, rfl⟩

theorem Letter_f (r : Int) (w : World) (h : letterB r = false) : Calls Tryd.prog 58 #[.int .i32 r] w fun e w' => e = .returned (.bool false) ∧ w = w' := by
  have h1 : r ≠ 95 ∧ (r < 97 ∨ 122 < r) ∧ (r < 945 ∨ 969 < r) := by
    simp [letterB] at h
    omega
  clear h
  obtain ⟨h0, h1, h2⟩ := h1
  have h3 : (r == 95) = false := by simpa using h0
  clear h0
  rcases h1 with h1 | h1
  · have h4 : ¬ 945 ≤ r := by omega
    clear h2
    go_enter Tryd.func58, Tryd.ntmps58
    go_wp2
    go_ret
    exact ⟨rfl, rfl⟩
  · rcases h2 with h2 | h2
    · have h4 : 97 ≤ r := by omega
      go_enter Tryd.func58, Tryd.ntmps58
      go_wp2
      go_ret
      exact ⟨rfl, rfl⟩
    · have h4 : 97 ≤ r := by omega
      have h5 : 945 ≤ r := by omega
      go_enter Tryd.func58, Tryd.ntmps58
      go_wp2
      go_ret
      exact ⟨rfl, rfl⟩

theorem Sign_t (r : Int) (w : World) (h : signB r = true) : Calls Tryd.prog 71 #[.int .i32 r] w fun e w' => e = .returned (.bool true) ∧ w = w' := by
  have h1 : r = 61 ∨ r = 44 ∨ r = 58 ∨ r = 40 ∨ r = 41 ∨ r = 91 ∨ r = 93 ∨ r = 43 ∨ r = 8594 ∨ r = 8592 ∨ r = 183 := by
    simp [signB] at h
    omega
  clear h
  rcases h1 with rfl | rfl | rfl | rfl | rfl | rfl | rfl | rfl | rfl | rfl | rfl
  all_goals
    go_enter Tryd.func71, Tryd.ntmps71
    go_wp2
    go_ret
    exact ⟨rfl, rfl⟩

theorem Sign_f (r : Int) (w : World) (h : signB r = false) : Calls Tryd.prog 71 #[.int .i32 r] w fun e w' => e = .returned (.bool false) ∧ w = w' := by
  have h1 : r ≠ 61 ∧ r ≠ 44 ∧ r ≠ 58 ∧ r ≠ 40 ∧ r ≠ 41 ∧ r ≠ 91 ∧ r ≠ 93 ∧ r ≠ 43 ∧ r ≠ 8594 ∧ r ≠ 8592 ∧ r ≠ 183 := by
    simp [signB] at h
    omega
  clear h
  obtain ⟨a1, a2, a3, a4, a5, a6, a7, a8, a9, a10, a11⟩ := h1
  have b1 : (r == 61) = false := by simpa using a1
  have b2 : (r == 44) = false := by simpa using a2
  have b3 : (r == 58) = false := by simpa using a3
  have b4 : (r == 40) = false := by simpa using a4
  have b5 : (r == 41) = false := by simpa using a5
  have b6 : (r == 91) = false := by simpa using a6
  have b7 : (r == 93) = false := by simpa using a7
  have b8 : (r == 43) = false := by simpa using a8
  have b9 : (r == 8594) = false := by simpa using a9
  have b10 : (r == 8592) = false := by simpa using a10
  have b11 : (r == 183) = false := by simpa using a11
  clear a1 a2 a3 a4 a5 a6 a7 a8 a9 a10 a11
  go_enter Tryd.func71, Tryd.ntmps71
  go_wp2
  go_ret
  exact ⟨rfl, rfl⟩

end Go.Proofs.YtoibcaoaljglbaaDoor
