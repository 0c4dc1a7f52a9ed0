/-
  A text with more empty lines, spaces, remarks between its lines (widen), and its runesU.
-/
import Derived.Test.YtoibcaoaljglbaaDoorRuneA
namespace Go.Proofs.YtoibcaoaljglbaaDoor
open Go Go.Lib

def wideHead : List UInt8 := [10, 32, 59, 10]
def wideTail : List UInt8 := [9, 59, 32, 226, 134, 146, 10, 10, 32]

def widen : List UInt8 → List UInt8
  | [] => []
  | b :: r => b :: ((if b = 10 then wideTail else []) ++ widen r)

def wideTailR : List (Option Int) := [some 9, some 59, some 32, some 8594, some 10, some 10, some 32]

def widenR : List (Option Int) → List (Option Int)
  | [] => []
  | x :: r => x :: ((if x = some 10 then wideTailR else []) ++ widenR r)

theorem runesU_wideHead (l : List UInt8) : runesU (wideHead ++ l) = some 10 :: some 32 :: some 59 :: some 10 :: runesU l := by
  show runesU (10 :: 32 :: 59 :: 10 :: l) = _
  rw [runesU_ascii _ (by decide), runesU_ascii _ (by decide), runesU_ascii _ (by decide), runesU_ascii _ (by decide)]
  rfl

theorem runesU_wideTail (l : List UInt8) : runesU (wideTail ++ l) = wideTailR ++ runesU l := by
  show runesU (9 :: 59 :: 32 :: 226 :: 134 :: 146 :: 10 :: 10 :: 32 :: l) = _
  rw [runesU_ascii _ (by decide), runesU_ascii _ (by decide), runesU_ascii _ (by decide)]
  have e : decodeL (226 :: 134 :: 146 :: 10 :: 10 :: 32 :: l) = (8594, 3) := by
    rw [decodeL_cons]
    unfold decodeN
    simp
  have hb : badL (226 :: 134 :: 146 :: 10 :: 10 :: 32 :: l) = false := by
    cases h : badL (226 :: 134 :: 146 :: 10 :: 10 :: 32 :: l) with
    | false => rfl
    | true =>
      rw [badL_iff, e] at h
      simp at h
  rw [runesU_good hb, e]
  show _ :: _ :: _ :: _ :: runesU (10 :: 10 :: 32 :: l) = _
  rw [runesU_ascii _ (by decide), runesU_ascii _ (by decide), runesU_ascii _ (by decide)]
  rfl

theorem widen_append (p q : List UInt8) (h : ∀ x ∈ p, 128 ≤ x.toNat) : widen (p ++ q) = p ++ widen q := by
  induction p with
  | nil => rfl
  | cons b r ih =>
    have hb : b ≠ 10 := by
      rintro rfl
      have := h 10 (by simp)
      revert this
      decide
    show b :: ((if b = 10 then wideTail else []) ++ widen (r ++ q)) = _
    rw [if_neg hb, ih (fun x hx => h x (by simp [hx]))]
    rfl

/-- a text is bytes of 128 and more, then nothing, or a byte below -/
theorem high_split (l : List UInt8) : ∃ p q, l = p ++ q ∧ (∀ x ∈ p, 128 ≤ x.toNat) ∧ (q = [] ∨ ∃ b t, b.toNat < 128 ∧ q = b :: t) := by
  induction l with
  | nil => exact ⟨[], [], rfl, by simp, Or.inl rfl⟩
  | cons b r ih =>
    obtain ⟨p, q, h1, h2, h3⟩ := ih
    by_cases hb : b.toNat < 128
    · exact ⟨[], b :: r, rfl, by simp, Or.inr ⟨b, r, hb, rfl⟩⟩
    · refine ⟨b :: p, q, by rw [h1]; rfl, ?_, h3⟩
      intro x hx
      simp at hx
      rcases hx with rfl | hx
      · omega
      · exact h2 x hx

theorem decode_widen (l : List UInt8) : decodeL (widen l) = decodeL l := by
  obtain ⟨p, q, rfl, hp, hq⟩ := high_split l
  rw [widen_append p q hp]
  refine decode_alike p _ _ hp ?_
  rcases hq with rfl | ⟨b, t, hb, rfl⟩
  · exact Or.inl ⟨rfl, rfl⟩
  · exact Or.inr ⟨b, _, t, hb, rfl, rfl⟩

theorem bad_widen (b : UInt8) (r : List UInt8) : badL (widen (b :: r)) = badL (b :: r) := by
  have e := decode_widen (b :: r)
  have h1 := badL_iff b r
  have h2 := badL_iff b ((if b = 10 then wideTail else []) ++ widen r)
  rw [show b :: ((if b = 10 then wideTail else []) ++ widen r) = widen (b :: r) from rfl, e, ← h1] at h2
  cases ha : badL (b :: r) with
  | true => exact h2.2 ha
  | false =>
    cases hb : badL (widen (b :: r)) with
    | false => rfl
    | true =>
      rw [h2.1 hb] at ha
      cases ha

theorem runesU_widen : ∀ (n : Nat) (l : List UInt8), l.length ≤ n → runesU (widen l) = widenR (runesU l)
  | 0, l, h => by
    obtain rfl := List.eq_nil_of_length_eq_zero (Nat.le_zero.1 h)
    rfl
  | n + 1, [], _ => rfl
  | n + 1, b :: r, h => by
    simp only [List.length_cons] at h
    by_cases hb : b.toNat < 128
    · show runesU (b :: ((if b = 10 then wideTail else []) ++ widen r)) = _
      rw [runesU_ascii _ hb, runesU_ascii _ hb]
      by_cases h10 : b = 10
      · subst h10
        rw [if_pos rfl, runesU_wideTail, runesU_widen n r (by omega)]
        rfl
      · rw [if_neg h10]
        have hne : ¬ (some (b.toNat : Int) = some 10) := by
          intro e
          apply h10
          exact byte_eq (n := 10) (by simp at e; omega)
        show _ :: runesU (widen r) = _ :: ((if some (b.toNat : Int) = some 10 then wideTailR else []) ++ widenR (runesU r))
        rw [if_neg hne, runesU_widen n r (by omega)]
        rfl
    · cases hbad : badL (b :: r) with
      | true =>
        have h2 := bad_widen b r
        rw [hbad] at h2
        rw [runesU_bad hbad]
        rw [show widen (b :: r) = b :: ((if b = 10 then wideTail else []) ++ widen r) from rfl] at h2 ⊢
        rw [runesU_bad h2]
        rfl
      | false =>
        have h2 := bad_widen b r
        rw [hbad] at h2
        obtain ⟨p, q, e, hl, hp, hr, hne, hd⟩ := decode_wide b r hb hbad
        have e1 := runesU_good hbad
        have ew : widen (b :: r) = p ++ widen q := by rw [e, widen_append p q hp]
        have eb : widen (b :: r) = b :: ((if b = 10 then wideTail else []) ++ widen r) := rfl
        have hd2 : decodeL (widen (b :: r)) = decodeL (b :: r) := decode_widen (b :: r)
        have e2 : runesU (widen (b :: r)) = some ((decodeL (widen (b :: r))).1 : Int) :: runesU ((widen (b :: r)).drop (decodeL (widen (b :: r))).2) := by
          rw [eb] at h2 ⊢
          exact runesU_good h2
        rw [e2, e1, hd2]
        have d1 : (widen (b :: r)).drop (decodeL (b :: r)).2 = widen q := by rw [ew, ← hl, List.drop_left]
        have d2 : (b :: r).drop (decodeL (b :: r)).2 = q := by rw [← hl, e, List.drop_left]
        rw [d1, d2]
        have hpl : 0 < p.length := List.length_pos_iff.2 hne
        have hq : q.length ≤ n := by
          have := congrArg List.length e
          simp only [List.length_cons, List.length_append] at this
          omega
        rw [runesU_widen n q hq]
        have hne10 : ¬ (some ((decodeL (b :: r)).1 : Int) = some 10) := by
          intro e
          simp at e
          omega
        show _ = _ :: ((if some ((decodeL (b :: r)).1 : Int) = some 10 then wideTailR else []) ++ widenR (runesU q))
        rw [if_neg hne10]
        rfl

end Go.Proofs.YtoibcaoaljglbaaDoor
