/-
  The runesU of a text, one by one, as a list (a byte that begins none: none); plain laws.
-/
import Derived.Lib.MapLaws
import Derived.Lib.TrimAscii
import Derived.Lib.Strings
namespace Go.Proofs.YtoibcaoaljglbaaDoor
open Go Go.Lib

def badL (l : List UInt8) : Bool := (decodeL l).1 == 65533 && !(hasPrefix l [239, 191, 189])

theorem prefix_three {l : List UInt8} (h : hasPrefix l [239, 191, 189] = true) : ∃ t, l = 239 :: 191 :: 189 :: t := by
  unfold hasPrefix at h
  obtain ⟨t, ht⟩ := List.isPrefixOf_iff_prefix.1 h
  exact ⟨t, ht.symm⟩

theorem decodeL_cons (b : UInt8) (r : List UInt8) : decodeL (b :: r) = decodeN (r.length + 1) b.toNat (r.getD 0 0).toNat (r.getD 1 0).toNat (r.getD 2 0).toNat := by
  rw [decodeL_N]
  simp

theorem decode_mark (t : List UInt8) : decodeL (239 :: 191 :: 189 :: t) = (65533, 3) := by
  rw [decodeL_cons]
  unfold decodeN
  simp

theorem byte_eq {a : UInt8} {n : Nat} (h : a.toNat = n) : a = UInt8.ofNat n := by rw [← h]; simp

theorem badL_iff (b : UInt8) (r : List UInt8) : badL (b :: r) = true ↔ decodeL (b :: r) = (65533, 1) := by
  have hb := b.toNat_lt
  constructor
  · intro h
    unfold badL at h
    simp only [Bool.and_eq_true, beq_iff_eq, Bool.not_eq_true'] at h
    obtain ⟨h1, h2⟩ := h
    have k1 := (r.getD 0 0).toNat_lt
    have k2 := (r.getD 1 0).toNat_lt
    rw [decodeL_cons] at h1 ⊢
    rcases decodeN_shape (r.length + 1) b.toNat (r.getD 0 0).toNat (r.getD 1 0).toNat (r.getD 2 0).toNat with ⟨c, e⟩ | ⟨c1, c2, c3, cv, e⟩ | ⟨c1, c2, c3, c4, cv, cs, e⟩ | ⟨c1, c2, c3, c4, c5, cv, cw, e⟩ | e
    · rw [e] at h1
      simp only at h1
      omega
    · rw [e] at h1
      simp only at h1
      omega
    · exfalso
      rw [e] at h1
      simp only at h1
      match r, c2, c3, c4, h1, h2, k1, k2 with
      | x :: y :: t, _, c3, c4, h1, h2, k1, k2 =>
        simp only [List.getD_cons_zero, List.getD_cons_succ] at c3 c4 h1 k1 k2
        have e0 : b = 239 := byte_eq (n := 239) (by omega)
        have e1 : x = 191 := byte_eq (n := 191) (by omega)
        have e2 : y = 189 := byte_eq (n := 189) (by omega)
        subst e0 e1 e2
        simp [hasPrefix] at h2
    · rw [e] at h1
      simp only at h1
      omega
    · exact e
  · intro h
    unfold badL
    rw [h]
    simp only [beq_self_eq_true, Bool.true_and, Bool.not_eq_true']
    cases hp : hasPrefix (b :: r) [239, 191, 189] with
    | false => rfl
    | true =>
      obtain ⟨t, ht⟩ := prefix_three hp
      rw [ht, decode_mark] at h
      simp at h

theorem decode_ascii (b : UInt8) (r : List UInt8) (h : b.toNat < 128) : decodeL (b :: r) = (b.toNat, 1) ∧ badL (b :: r) = false := by
  have e := decodeL_ascii b r h
  refine ⟨e, ?_⟩
  cases hb : badL (b :: r) with
  | false => rfl
  | true =>
    rw [badL_iff, e] at hb
    simp at hb
    omega

set_option maxRecDepth 100000 in
/-- a rune of more than one byte: its bytes alone matter -/
theorem decode_wide (b : UInt8) (r : List UInt8) (h : ¬ b.toNat < 128) (hb : badL (b :: r) = false) :
    ∃ p q, b :: r = p ++ q ∧ p.length = (decodeL (b :: r)).2 ∧ (∀ x ∈ p, 128 ≤ x.toNat) ∧ 128 ≤ (decodeL (b :: r)).1 ∧ p ≠ [] ∧ ∀ q', decodeL (p ++ q') = decodeL (b :: r) := by
  have hnb : ¬ decodeL (b :: r) = (65533, 1) := fun e => by
    rw [(badL_iff b r).2 e] at hb
    cases hb
  rw [decodeL_cons] at hnb ⊢
  rcases decodeN_shape (r.length + 1) b.toNat (r.getD 0 0).toNat (r.getD 1 0).toNat (r.getD 2 0).toNat with ⟨c, e⟩ | ⟨c1, c2, c3, cv, e⟩ | ⟨c1, c2, c3, c4, cv, cs, e⟩ | ⟨c1, c2, c3, c4, c5, cv, cw, e⟩ | e
  · exact absurd c h
  · rw [e]
    match r, c2, c3, cv with
    | x :: t, _, c3, cv =>
      simp only [List.getD_cons_zero] at c3 cv ⊢
      refine ⟨[b, x], t, rfl, rfl, ?_, by omega, by simp, fun q' => ?_⟩
      · intro z hz
        simp at hz
        rcases hz with rfl | rfl <;> omega
      · show decodeL (b :: x :: q') = _
        rw [decodeL_cons]
        simp only [List.getD_cons_zero, List.length_cons]
        unfold decodeN
        rw [if_neg h, if_pos ⟨c1, by omega, c3⟩, if_pos cv]
  · rw [e]
    match r, c2, c3, c4, cv, cs with
    | x :: y :: t, _, c3, c4, cv, cs =>
      simp only [List.getD_cons_zero, List.getD_cons_succ] at c3 c4 cv cs ⊢
      refine ⟨[b, x, y], t, rfl, rfl, ?_, by omega, by simp, fun q' => ?_⟩
      · intro z hz
        simp at hz
        rcases hz with rfl | rfl | rfl <;> omega
      · show decodeL (b :: x :: y :: q') = _
        rw [decodeL_cons]
        simp only [List.getD_cons_zero, List.getD_cons_succ, List.length_cons]
        unfold decodeN
        rw [if_neg h, if_neg (by omega), if_pos ⟨c1, ⟨by omega, c3⟩, by omega, c4⟩, if_pos ⟨cv, by omega⟩]
  · rw [e]
    match r, c2, c3, c4, c5, cv, cw with
    | x :: y :: z :: t, _, c3, c4, c5, cv, cw =>
      simp only [List.getD_cons_zero, List.getD_cons_succ] at c3 c4 c5 cv cw ⊢
      refine ⟨[b, x, y, z], t, rfl, rfl, ?_, by omega, by simp, fun q' => ?_⟩
      · intro u hu
        simp at hu
        rcases hu with rfl | rfl | rfl | rfl <;> omega
      · show decodeL (b :: x :: y :: z :: q') = _
        rw [decodeL_cons]
        simp only [List.getD_cons_zero, List.getD_cons_succ, List.length_cons]
        unfold decodeN
        rw [if_neg h, if_neg (by omega), if_neg (by omega), if_pos ⟨c1, ⟨by omega, c3⟩, ⟨by omega, c4⟩, by omega, c5⟩, if_pos ⟨cv, by omega⟩]
  · exact absurd e hnb

/-- the runesU of a text -/
def runesF : Nat → List UInt8 → List (Option Int)
  | 0, _ => []
  | _ + 1, [] => []
  | f + 1, b :: r => if badL (b :: r) = true then [none] else some ((decodeL (b :: r)).1 : Int) :: runesF f ((b :: r).drop (decodeL (b :: r)).2)

def runesU (l : List UInt8) : List (Option Int) := runesF l.length l

theorem runesF_more : ∀ (f g : Nat) (l : List UInt8), l.length ≤ f → l.length ≤ g → runesF f l = runesF g l
  | 0, g, l, hf, _ => by
    obtain rfl := List.eq_nil_of_length_eq_zero (Nat.le_zero.1 hf)
    cases g <;> rfl
  | f + 1, 0, l, _, hg => by
    obtain rfl := List.eq_nil_of_length_eq_zero (Nat.le_zero.1 hg)
    rfl
  | f + 1, g + 1, [], _, _ => rfl
  | f + 1, g + 1, b :: r, hf, hg => by
    have hw := decodeL_width (b :: r)
    have hd : ((b :: r).drop (decodeL (b :: r)).2).length ≤ r.length := by
      rw [List.length_drop]
      simp only [List.length_cons]
      omega
    simp only [List.length_cons] at hf hg
    simp only [runesF]
    rw [runesF_more f g _ (by omega) (by omega)]

theorem runesU_nil : runesU [] = [] := rfl

theorem runesU_bad {b : UInt8} {r : List UInt8} (h : badL (b :: r) = true) : runesU (b :: r) = [none] := by
  show runesF (r.length + 1) (b :: r) = _
  rw [runesF, if_pos h]

theorem runesU_good {b : UInt8} {r : List UInt8} (h : badL (b :: r) = false) : runesU (b :: r) = some ((decodeL (b :: r)).1 : Int) :: runesU ((b :: r).drop (decodeL (b :: r)).2) := by
  show runesF (r.length + 1) (b :: r) = _
  rw [runesF, if_neg (by rw [h]; decide)]
  congr 1
  have hw := decodeL_width (b :: r)
  refine runesF_more _ _ _ ?_ (Nat.le_refl _)
  rw [List.length_drop]
  simp only [List.length_cons]
  omega

theorem runesU_ascii {b : UInt8} (r : List UInt8) (h : b.toNat < 128) : runesU (b :: r) = some (b.toNat : Int) :: runesU r := by
  obtain ⟨h1, h2⟩ := decode_ascii b r h
  rw [runesU_good h2, h1]
  rfl

/-- texts that are alike up to a byte below 128 begin alike -/
theorem decode_alike (p q q' : List UInt8) (hp : ∀ x ∈ p, 128 ≤ x.toNat) (hq : (q = [] ∧ q' = []) ∨ ∃ b t t', b.toNat < 128 ∧ q = b :: t ∧ q' = b :: t') : decodeL (p ++ q) = decodeL (p ++ q') := by
  have c1 : ∀ (l : List UInt8) (n : Nat), (l = [] ∧ n = 0 ∨ ∃ b t, b.toNat < 128 ∧ l = b :: t) → (l.getD 0 0).toNat / 64 ≠ 2 := by
    rintro l n (⟨rfl, _⟩ | ⟨b, t, hb, rfl⟩)
    · simp
    · simp only [List.getD_cons_zero]
      omega
  have d1 : (q.getD 0 0).toNat / 64 ≠ 2 := by
    rcases hq with ⟨rfl, _⟩ | ⟨b, t, _, hb, rfl, _⟩
    · simp
    · simp only [List.getD_cons_zero]; omega
  have d2 : (q'.getD 0 0).toNat / 64 ≠ 2 := by
    rcases hq with ⟨_, rfl⟩ | ⟨b, _, t, hb, _, rfl⟩
    · simp
    · simp only [List.getD_cons_zero]; omega
  match p, hp with
  | [], _ =>
    rcases hq with ⟨rfl, rfl⟩ | ⟨b, t, t', hb, rfl, rfl⟩
    · rfl
    · show decodeL (b :: t) = decodeL (b :: t')
      rw [decodeL_ascii b t hb, decodeL_ascii b t' hb]
  | [x], hp =>
    show decodeL (x :: q) = decodeL (x :: q')
    rw [decodeL_cons, decodeL_cons]
    unfold decodeN
    simp only [d1, d2, and_false, false_and, if_false]
  | [x, y], hp =>
    show decodeL (x :: y :: q) = decodeL (x :: y :: q')
    rw [decodeL_cons, decodeL_cons]
    simp only [List.getD_cons_zero, List.getD_cons_succ, List.length_cons]
    unfold decodeN
    simp only [d1, d2, and_false, false_and, if_false, Nat.lt_add_left_iff_pos, true_and, Nat.zero_lt_succ]
  | [x, y, z], hp =>
    show decodeL (x :: y :: z :: q) = decodeL (x :: y :: z :: q')
    rw [decodeL_cons, decodeL_cons]
    simp only [List.getD_cons_zero, List.getD_cons_succ, List.length_cons]
    unfold decodeN
    simp only [d1, d2, and_false, if_false, show ∀ n, (1 < n + 1 + 1 + 1) = True from fun n => by simp, show ∀ n, (2 < n + 1 + 1 + 1) = True from fun n => by simp, true_and]
  | x :: y :: z :: u :: t, hp =>
    show decodeL (x :: y :: z :: u :: (t ++ q)) = decodeL (x :: y :: z :: u :: (t ++ q'))
    rw [decodeL_cons, decodeL_cons]
    simp only [List.getD_cons_zero, List.getD_cons_succ, List.length_cons]
    unfold decodeN
    simp only [show ∀ n, (1 < n + 1 + 1 + 1 + 1) = True from fun n => by simp, show ∀ n, (2 < n + 1 + 1 + 1 + 1) = True from fun n => by simp, show ∀ n, (3 < n + 1 + 1 + 1 + 1) = True from fun n => by simp, true_and]

end Go.Proofs.YtoibcaoaljglbaaDoor
