
/-
  The runesU of a text, one by one, as a list (a byte that begins none: none); plain laws.
-/
import Derived.Lib.MapLaws
import Derived.Lib.TrimAscii
import Derived.Lib.Strings
import Derived.Test.YtfpjdgobannneaaDoorLawB
namespace Go.Proofs.YtfpjdgobannneaaDoor
open Go Go.Lib

def badL (l : List UInt8) : Bool := (decodeL l).1 == 65533 && !(hasPrefix l [239, 191, 189])

theorem prefix_three {l : List UInt8} (h : hasPrefix l [239, 191, 189] = true) : ∃ t, l = 239 :: 191 :: 189 :: t := by
  unfold hasPrefix at h
  obtain ⟨t, ht⟩ := List.isPrefixOf_iff_prefix.1 h
  exact ⟨t, ht.symm⟩

theorem decodeL_cons (b : UInt8) (r : List UInt8) : decodeL (b :: r) = decodeN (r.length + 1) b.toNat (r.getD 0 0).toNat (r.getD 1 0).toNat (r.getD 2 0).toNat := by
  rw [decodeL_N]
  simp

theorem decode_mark (t : List UInt8) : decodeL (239 :: 191 :: 189 :: t) = (65533, 3) := by
  rw [decodeL_cons]
  unfold decodeN
  simp

theorem byte_eq {a : UInt8} {n : Nat} (h : a.toNat = n) : a = UInt8.ofNat n := by rw [← h]; simp

theorem badL_iff (b : UInt8) (r : List UInt8) : badL (b :: r) = true ↔ decodeL (b :: r) = (65533, 1) := by
  have hb := b.toNat_lt
  constructor
  · intro h
    unfold badL at h
    simp only [Bool.and_eq_true, beq_iff_eq, Bool.not_eq_true'] at h
    obtain ⟨h1, h2⟩ := h
    have k1 := (r.getD 0 0).toNat_lt
    have k2 := (r.getD 1 0).toNat_lt
    rw [decodeL_cons] at h1 ⊢
    rcases decodeN_shape (r.length + 1) b.toNat (r.getD 0 0).toNat (r.getD 1 0).toNat (r.getD 2 0).toNat with ⟨c, e⟩ | ⟨c1, c2, c3, cv, e⟩ | ⟨c1, c2, c3, c4, cv, cs, e⟩ | ⟨c1, c2, c3, c4, c5, cv, cw, e⟩ | e
    · rw [e] at h1
      simp only at h1
      omega
    · rw [e] at h1
      simp only at h1
      omega
    · exfalso
      rw [e] at h1
      simp only at h1
      match r, c2, c3, c4, h1, h2, k1, k2 with
      | x :: y :: t, _, c3, c4, h1, h2, k1, k2 =>
        simp only [List.getD_cons_zero, List.getD_cons_succ] at c3 c4 h1 k1 k2
        have e0 : b = 239 := byte_eq (n := 239) (by omega)
        have e1 : x = 191 := byte_eq (n := 191) (by omega)
        have e2 : y = 189 := byte_eq (n := 189) (by omega)
        subst e0 e1 e2
        simp [hasPrefix] at h2
    · rw [e] at h1
      simp only at h1
      omega
    · exact e
  · intro h
    unfold badL
    rw [h]
    simp only [beq_self_eq_true, Bool.true_and, Bool.not_eq_true']
    cases hp : hasPrefix (b :: r) [239, 191, 189] with
    | false => rfl
    | true =>
      obtain ⟨t, ht⟩ := prefix_three hp
      rw [ht, decode_mark] at h
      simp at h

theorem decode_ascii (b : UInt8) (r : List UInt8) (h : b.toNat < 128) : decodeL (b :: r) = (b.toNat, 1) ∧ badL (b :: r) = false := by
  have e := decodeL_ascii b r h
  refine ⟨e, ?_⟩
  cases hb : badL (b :: r) with
  | false => rfl
  | true =>
    rw [badL_iff, e] at hb
    simp at hb
    omega

set_option maxRecDepth 100000 in
/-- a rune of more than one byte: its bytes alone matter -/
theorem decode_wide (b : UInt8) (r : List UInt8) (h : ¬ b.toNat < 128) (hb : badL (b :: r) = false) :
    ∃ p q, b :: r = p ++ q ∧ p.length = (decodeL (b :: r)).2 ∧ (∀ x ∈ p, 128 ≤ x.toNat) ∧ 128 ≤ (decodeL (b :: r)).1 ∧ p ≠ [] ∧ ∀ q', decodeL (p ++ q') = decodeL (b :: r) := by
  have hnb : ¬ decodeL (b :: r) = (65533, 1) := fun e => by
    rw [(badL_iff b r).2 e] at hb
    cases hb
  rw [decodeL_cons] at hnb ⊢
  rcases decodeN_shape (r.length + 1) b.toNat (r.getD 0 0).toNat (r.getD 1 0).toNat (r.getD 2 0).toNat with ⟨c, e⟩ | ⟨c1, c2, c3, cv, e⟩ | ⟨c1, c2, c3, c4, cv, cs, e⟩ | ⟨c1, c2, c3, c4, c5, cv, cw, e⟩ | e
  · exact absurd c h
  · rw [e]
    match r, c2, c3, cv with
    | x :: t, _, c3, cv =>
      simp only [List.getD_cons_zero] at c3 cv ⊢
      refine ⟨[b, x], t, rfl, rfl, ?_, by omega, by simp, fun q' => ?_⟩
      · intro z hz
        simp at hz
        rcases hz with rfl | rfl <;> omega
      · show decodeL (b :: x :: q') = _
        rw [decodeL_cons]
        simp only [List.getD_cons_zero, List.length_cons]
        unfold decodeN
        rw [if_neg h, if_pos ⟨c1, by omega, c3⟩, if_pos cv]
  · rw [e]
    match r, c2, c3, c4, cv, cs with
    | x :: y :: t, _, c3, c4, cv, cs =>
      simp only [List.getD_cons_zero, List.getD_cons_succ] at c3 c4 cv cs ⊢
      refine ⟨[b, x, y], t, rfl, rfl, ?_, by omega, by simp, fun q' => ?_⟩
      · intro z hz
        simp at hz
        rcases hz with rfl | rfl | rfl <;> omega
      · show decodeL (b :: x :: y :: q') = _
        rw [decodeL_cons]
        simp only [List.getD_cons_zero, List.getD_cons_succ, List.length_cons]
        unfold decodeN
        rw [if_neg h, if_neg (by omega), if_pos ⟨c1, ⟨by omega, c3⟩, by omega, c4⟩, if_pos ⟨cv, by omega⟩]
  · rw [e]
    match r, c2, c3, c4, c5, cv, cw with
    | x :: y :: z :: t, _, c3, c4, c5, cv, cw =>
      simp only [List.getD_cons_zero, List.getD_cons_succ] at c3 c4 c5 cv cw ⊢
      refine ⟨[b, x, y, z], t, rfl, rfl, ?_, by omega, by simp, fun q' => ?_⟩
      · intro u hu
        simp at hu
        rcases hu with rfl | rfl | rfl | rfl <;> omega
      · show decodeL (b :: x :: y :: z :: q') = _
        rw [decodeL_cons]
        simp only [List.getD_cons_zero, List.getD_cons_succ, List.length_cons]
        unfold decodeN
        rw [if_neg h, if_neg (by omega), if_neg (by omega), if_pos ⟨c1, ⟨by omega, c3⟩, ⟨by omega, c4⟩, by omega, c5⟩, if_pos ⟨cv, by omega⟩]
  · exact absurd e hnb

/-- the runesU of a text -/
def runesF : Nat → List UInt8 → List (Option Int)
  | 0, _ => []
  | _ + 1, [] => []
  | f + 1, b :: r => if badL (b :: r) = true then [none] else some ((decodeL (b :: r)).1 : Int) :: runesF f ((b :: r).drop (decodeL (b :: r)).2)

def runesU (l : List UInt8) : List (Option Int) := runesF l.length l

theorem runesF_more : ∀ (f g : Nat) (l : List UInt8), l.length ≤ f → l.length ≤ g → runesF f l = runesF g l
  | 0, g, l, hf, _ => by
    obtain rfl := List.eq_nil_of_length_eq_zero (Nat.le_zero.1 hf)
    cases g <;> rfl
  | f + 1, 0, l, _, hg => by
    obtain rfl := List.eq_nil_of_length_eq_zero (Nat.le_zero.1 hg)
    rfl
  | f + 1, g + 1, [], _, _ => rfl
  | f + 1, g + 1, b :: r, hf, hg => by
    have hw := decodeL_width (b :: r)
    have hd : ((b :: r).drop (decodeL (b :: r)).2).length ≤ r.length := by
      rw [List.length_drop]
      simp only [List.length_cons]
      omega
    simp only [List.length_cons] at hf hg
    simp only [runesF]
    rw [runesF_more f g _ (by omega) (by omega)]

theorem runesU_nil : runesU [] = [] := rfl

theorem runesU_bad {b : UInt8} {r : List UInt8} (h : badL (b :: r) = true) : runesU (b :: r) = [none] := by
  show runesF (r.length + 1) (b :: r) = _
  rw [runesF, if_pos h]

theorem runesU_good {b : UInt8} {r : List UInt8} (h : badL (b :: r) = false) : runesU (b :: r) = some ((decodeL (b :: r)).1 : Int) :: runesU ((b :: r).drop (decodeL (b :: r)).2) := by
  show runesF (r.length + 1) (b :: r) = _
  rw [runesF, if_neg (by rw [h]; decide)]
  congr 1
  have hw := decodeL_width (b :: r)
  refine runesF_more _ _ _ ?_ (Nat.le_refl _)
  rw [List.length_drop]
  simp only [List.length_cons]
  omega

theorem runesU_ascii {b : UInt8} (r : List UInt8) (h : b.toNat < 128) : runesU (b :: r) = some (b.toNat : Int) :: runesU r := by
  obtain ⟨h1, h2⟩ := decode_ascii b r h
  rw [runesU_good h2, h1]
  rfl

/-- texts that are alike up to a byte below 128 begin alike -/
theorem decode_alike (p q q' : List UInt8) (hp : ∀ x ∈ p, 128 ≤ x.toNat) (hq : (q = [] ∧ q' = []) ∨ ∃ b t t', b.toNat < 128 ∧ q = b :: t ∧ q' = b :: t') : decodeL (p ++ q) = decodeL (p ++ q') := by
  have c1 : ∀ (l : List UInt8) (n : Nat), (l = [] ∧ n = 0 ∨ ∃ b t, b.toNat < 128 ∧ l = b :: t) → (l.getD 0 0).toNat / 64 ≠ 2 := by
    rintro l n (⟨rfl, _⟩ | ⟨b, t, hb, rfl⟩)
    · simp
    · simp only [List.getD_cons_zero]
      omega
  have d1 : (q.getD 0 0).toNat / 64 ≠ 2 := by
    rcases hq with ⟨rfl, _⟩ | ⟨b, t, _, hb, rfl, _⟩
    · simp
    · simp only [List.getD_cons_zero]; omega
  have d2 : (q'.getD 0 0).toNat / 64 ≠ 2 := by
    rcases hq with ⟨_, rfl⟩ | ⟨b, _, t, hb, _, rfl⟩
    · simp
    · simp only [List.getD_cons_zero]; omega
  match p, hp with
  | [], _ =>
    rcases hq with ⟨rfl, rfl⟩ | ⟨b, t, t', hb, rfl, rfl⟩
    · rfl
    · show decodeL (b :: t) = decodeL (b :: t')
      rw [decodeL_ascii b t hb, decodeL_ascii b t' hb]
  | [x], hp =>
    show decodeL (x :: q) = decodeL (x :: q')
    rw [decodeL_cons, decodeL_cons]
    unfold decodeN
    simp only [d1, d2, and_false, false_and, if_false]
  | [x, y], hp =>
    show decodeL (x :: y :: q) = decodeL (x :: y :: q')
    rw [decodeL_cons, decodeL_cons]
    simp only [List.getD_cons_zero, List.getD_cons_succ, List.length_cons]
    unfold decodeN
    simp only [d1, d2, and_false, false_and, if_false, Nat.lt_add_left_iff_pos, true_and, Nat.zero_lt_succ]
  | [x, y, z], hp =>
    show decodeL (x :: y :: z :: q) = decodeL (x :: y :: z :: q')
    rw [decodeL_cons, decodeL_cons]
    simp only [List.getD_cons_zero, List.getD_cons_succ, List.length_cons]
    unfold decodeN
    simp only [d1, d2, and_false, if_false, show ∀ n, (1 < n + 1 + 1 + 1) = True from fun n => by simp, show ∀ n, (2 < n + 1 + 1 + 1) = True from fun n => by simp, true_and]
  | x :: y :: z :: u :: t, hp =>
    show decodeL (x :: y :: z :: u :: (t ++ q)) = decodeL (x :: y :: z :: u :: (t ++ q'))
    rw [decodeL_cons, decodeL_cons]
    simp only [List.getD_cons_zero, List.getD_cons_succ, List.length_cons]
    unfold decodeN
    simp only [show ∀ n, (1 < n + 1 + 1 + 1 + 1) = True from fun n => by simp, show ∀ n, (2 < n + 1 + 1 + 1 + 1) = True from fun n => by simp, show ∀ n, (3 < n + 1 + 1 + 1 + 1) = True from fun n => by simp, true_and]

end Go.Proofs.YtfpjdgobannneaaDoor

/-
  A text with more empty lines, spaces, remarks between its lines (widen), and its runesU.
-/
namespace Go.Proofs.YtfpjdgobannneaaDoor
open Go Go.Lib

def wideHead : List UInt8 := [10, 32, 59, 10]
def wideTail : List UInt8 := [9, 59, 32, 226, 134, 146, 10, 10, 32]

def widen : List UInt8 → List UInt8
  | [] => []
  | b :: r => b :: ((if b = 10 then wideTail else []) ++ widen r)

def wideTailR : List (Option Int) := [some 9, some 59, some 32, some 8594, some 10, some 10, some 32]

def widenR : List (Option Int) → List (Option Int)
  | [] => []
  | x :: r => x :: ((if x = some 10 then wideTailR else []) ++ widenR r)

theorem runesU_wideHead (l : List UInt8) : runesU (wideHead ++ l) = some 10 :: some 32 :: some 59 :: some 10 :: runesU l := by
  show runesU (10 :: 32 :: 59 :: 10 :: l) = _
  rw [runesU_ascii _ (by decide), runesU_ascii _ (by decide), runesU_ascii _ (by decide), runesU_ascii _ (by decide)]
  rfl

theorem runesU_wideTail (l : List UInt8) : runesU (wideTail ++ l) = wideTailR ++ runesU l := by
  show runesU (9 :: 59 :: 32 :: 226 :: 134 :: 146 :: 10 :: 10 :: 32 :: l) = _
  rw [runesU_ascii _ (by decide), runesU_ascii _ (by decide), runesU_ascii _ (by decide)]
  have e : decodeL (226 :: 134 :: 146 :: 10 :: 10 :: 32 :: l) = (8594, 3) := by
    rw [decodeL_cons]
    unfold decodeN
    simp
  have hb : badL (226 :: 134 :: 146 :: 10 :: 10 :: 32 :: l) = false := by
    cases h : badL (226 :: 134 :: 146 :: 10 :: 10 :: 32 :: l) with
    | false => rfl
    | true =>
      rw [badL_iff, e] at h
      simp at h
  rw [runesU_good hb, e]
  show _ :: _ :: _ :: _ :: runesU (10 :: 10 :: 32 :: l) = _
  rw [runesU_ascii _ (by decide), runesU_ascii _ (by decide), runesU_ascii _ (by decide)]
  rfl

theorem widen_append (p q : List UInt8) (h : ∀ x ∈ p, 128 ≤ x.toNat) : widen (p ++ q) = p ++ widen q := by
  induction p with
  | nil => rfl
  | cons b r ih =>
    have hb : b ≠ 10 := by
      rintro rfl
      have := h 10 (by simp)
      revert this
      decide
    show b :: ((if b = 10 then wideTail else []) ++ widen (r ++ q)) = _
    rw [if_neg hb, ih (fun x hx => h x (by simp [hx]))]
    rfl

/-- a text is bytes of 128 and more, then nothing, or a byte below -/
theorem high_split (l : List UInt8) : ∃ p q, l = p ++ q ∧ (∀ x ∈ p, 128 ≤ x.toNat) ∧ (q = [] ∨ ∃ b t, b.toNat < 128 ∧ q = b :: t) := by
  induction l with
  | nil => exact ⟨[], [], rfl, by simp, Or.inl rfl⟩
  | cons b r ih =>
    obtain ⟨p, q, h1, h2, h3⟩ := ih
    by_cases hb : b.toNat < 128
    · exact ⟨[], b :: r, rfl, by simp, Or.inr ⟨b, r, hb, rfl⟩⟩
    · refine ⟨b :: p, q, by rw [h1]; rfl, ?_, h3⟩
      intro x hx
      simp at hx
      rcases hx with rfl | hx
      · omega
      · exact h2 x hx

theorem decode_widen (l : List UInt8) : decodeL (widen l) = decodeL l := by
  obtain ⟨p, q, rfl, hp, hq⟩ := high_split l
  rw [widen_append p q hp]
  refine decode_alike p _ _ hp ?_
  rcases hq with rfl | ⟨b, t, hb, rfl⟩
  · exact Or.inl ⟨rfl, rfl⟩
  · exact Or.inr ⟨b, _, t, hb, rfl, rfl⟩

theorem bad_widen (b : UInt8) (r : List UInt8) : badL (widen (b :: r)) = badL (b :: r) := by
  have e := decode_widen (b :: r)
  have h1 := badL_iff b r
  have h2 := badL_iff b ((if b = 10 then wideTail else []) ++ widen r)
  rw [show b :: ((if b = 10 then wideTail else []) ++ widen r) = widen (b :: r) from rfl, e, ← h1] at h2
  cases ha : badL (b :: r) with
  | true => exact h2.2 ha
  | false =>
    cases hb : badL (widen (b :: r)) with
    | false => rfl
    | true =>
      rw [h2.1 hb] at ha
      cases ha

theorem runesU_widen : ∀ (n : Nat) (l : List UInt8), l.length ≤ n → runesU (widen l) = widenR (runesU l)
  | 0, l, h => by
    obtain rfl := List.eq_nil_of_length_eq_zero (Nat.le_zero.1 h)
    rfl
  | n + 1, [], _ => rfl
  | n + 1, b :: r, h => by
    simp only [List.length_cons] at h
    by_cases hb : b.toNat < 128
    · show runesU (b :: ((if b = 10 then wideTail else []) ++ widen r)) = _
      rw [runesU_ascii _ hb, runesU_ascii _ hb]
      by_cases h10 : b = 10
      · subst h10
        rw [if_pos rfl, runesU_wideTail, runesU_widen n r (by omega)]
        rfl
      · rw [if_neg h10]
        have hne : ¬ (some (b.toNat : Int) = some 10) := by
          intro e
          apply h10
          exact byte_eq (n := 10) (by simp at e; omega)
        show _ :: runesU (widen r) = _ :: ((if some (b.toNat : Int) = some 10 then wideTailR else []) ++ widenR (runesU r))
        rw [if_neg hne, runesU_widen n r (by omega)]
        rfl
    · cases hbad : badL (b :: r) with
      | true =>
        have h2 := bad_widen b r
        rw [hbad] at h2
        rw [runesU_bad hbad]
        rw [show widen (b :: r) = b :: ((if b = 10 then wideTail else []) ++ widen r) from rfl] at h2 ⊢
        rw [runesU_bad h2]
        rfl
      | false =>
        have h2 := bad_widen b r
        rw [hbad] at h2
        obtain ⟨p, q, e, hl, hp, hr, hne, hd⟩ := decode_wide b r hb hbad
        have e1 := runesU_good hbad
        have ew : widen (b :: r) = p ++ widen q := by rw [e, widen_append p q hp]
        have eb : widen (b :: r) = b :: ((if b = 10 then wideTail else []) ++ widen r) := rfl
        have hd2 : decodeL (widen (b :: r)) = decodeL (b :: r) := decode_widen (b :: r)
        have e2 : runesU (widen (b :: r)) = some ((decodeL (widen (b :: r))).1 : Int) :: runesU ((widen (b :: r)).drop (decodeL (widen (b :: r))).2) := by
          rw [eb] at h2 ⊢
          exact runesU_good h2
        rw [e2, e1, hd2]
        have d1 : (widen (b :: r)).drop (decodeL (b :: r)).2 = widen q := by rw [ew, ← hl, List.drop_left]
        have d2 : (b :: r).drop (decodeL (b :: r)).2 = q := by rw [← hl, e, List.drop_left]
        rw [d1, d2]
        have hpl : 0 < p.length := List.length_pos_iff.2 hne
        have hq : q.length ≤ n := by
          have := congrArg List.length e
          simp only [List.length_cons, List.length_append] at this
          omega
        rw [runesU_widen n q hq]
        have hne10 : ¬ (some ((decodeL (b :: r)).1 : Int) = some 10) := by
          intro e
          simp at e
          omega
        show _ = _ :: ((if some ((decodeL (b :: r)).1 : Int) = some 10 then wideTailR else []) ++ widenR (runesU q))
        rw [if_neg hne10]
        rfl

end Go.Proofs.YtfpjdgobannneaaDoor

/-
  The reader over runesU; two readers that stand alike: more empty lines, spaces, remarks change nothing but places.
-/
namespace Go.Proofs.YtfpjdgobannneaaDoor
open Go Go.Lib Go.RowKit

def rdR : List (Option Int) → Rd → Rd
  | [], st => st
  | x :: t, st => if (st.look x.isNone).wrong = 0 then rdR t ((st.look x.isNone).go (x.getD 0)) else st.look x.isNone

theorem len_bytes (s : ByteArray) : s.data.toList.length = s.size := Array.length_toList

theorem bytes_extract (s : ByteArray) (k : Nat) : (s.extract k s.size).data.toList = s.data.toList.drop k := by
  rw [ByteArray.data_extract]
  simp only [Array.toList_extract, List.extract_eq_take_drop]
  rw [List.take_of_length_le]
  rw [List.length_drop, len_bytes]
  exact Nat.le_refl _

theorem badRune_badL (s : ByteArray) (k : Nat) : badRune s k ((Utf8.decode s k).1 : Int) = badL (s.data.toList.drop k) := by
  unfold badRune badL
  rw [bytes_extract, decodeL_drop]
  congr 1
  cases h : ((Utf8.decode s k).1 == 65533) with
  | true =>
    have : (Utf8.decode s k).1 = 65533 := by simpa using h
    rw [this]
    rfl
  | false =>
    have : ¬ (Utf8.decode s k).1 = 65533 := by simpa using h
    simp
    omega

theorem drop_cons_of_lt {s : ByteArray} {k : Nat} (h : k < s.size) : ∃ b r, s.data.toList.drop k = b :: r := by
  have : k < s.data.toList.length := by rw [len_bytes]; exact h
  exact ⟨_, _, List.drop_eq_getElem_cons this⟩

theorem rdLoop_runes (s : ByteArray) : ∀ (f k : Nat) (st : Rd), s.size < k + f → rdLoop s f k st = rdR (runesU (s.data.toList.drop k)) st
  | 0, k, st, h => by
    rw [List.drop_of_length_le (by have := len_bytes s; omega)]
    rfl
  | f + 1, k, st, h => by
    by_cases hk : k < s.size
    · obtain ⟨b, r, e⟩ := drop_cons_of_lt hk
      have hb := badRune_badL s k
      rw [rdLoop, if_pos hk, hb]
      have hd := decodeL_drop s k
      rw [e] at hb ⊢
      rw [e] at hd
      cases hbad : badL (b :: r) with
      | true =>
        rw [runesU_bad hbad]
        have hl := look_bad st
        simp only [rdR, Option.isNone_none, if_neg hl]
      | false =>
        rw [runesU_good hbad]
        have e2 : (b :: r).drop (decodeL (b :: r)).2 = s.data.toList.drop (k + (Utf8.decode s k).2) := by
          rw [← e, List.drop_drop, decodeL_drop]
        rw [e2, hd]
        simp only [rdR, Option.isNone_some, Option.getD_some]
        split
        · exact rdLoop_runes s f _ _ (by have := decode_pos s k; omega)
        · rfl
    · rw [rdLoop, if_neg hk, List.drop_of_length_le (by have := len_bytes s; omega)]
      rfl

theorem rdAll_runes (s : ByteArray) : rdAll s = (rdR (runesU s.data.toList) Rd.init).close := by
  unfold rdAll
  rw [rdLoop_runes s _ _ _ (by omega), List.drop_zero]

/-- what a row of words says, ends ahead, behind and twice left out -/
def goH : Bool → Bool → List Has → List Has
  | _, _, [] => []
  | o, p, h :: r => if h.isStop = true then goH o o r else (if p = true then [Has.stop] else []) ++ h :: goH true false r

def stH : Bool → Bool → List Has → Bool × Bool
  | o, p, [] => (o, p)
  | o, _, h :: r => if h.isStop = true then stH o o r else stH true false r

theorem goH_append (L M : List Has) : ∀ o p, goH o p (L ++ M) = goH o p L ++ goH (stH o p L).1 (stH o p L).2 M := by
  induction L with
  | nil => intro o p; rfl
  | cons h r ih =>
    intro o p
    simp only [List.cons_append, goH, stH]
    split
    · exact ih o o
    · rw [ih true false]
      simp [List.append_assoc]

theorem stH_append (L M : List Has) : ∀ o p, stH o p (L ++ M) = stH (stH o p L).1 (stH o p L).2 M := by
  induction L with
  | nil => intro o p; rfl
  | cons h r ih =>
    intro o p
    simp only [List.cons_append, stH]
    split
    · exact ih o o
    · exact ih true false

theorem isStop_eq {h : Has} (hs : h.isStop = true) : h = .stop := by cases h <;> first | rfl | cases hs

theorem goIt_goH (l : List Item) : ∀ (o : Bool) (p : Option Item), (∀ z, p = some z → z.has.isStop = true) → (o = false → p = none) → (goIt o p l).map (·.has) = goH o p.isSome (l.map (·.has)) := by
  induction l with
  | nil => intro o p _ _; rfl
  | cons x r ih =>
    intro o p hp ho
    simp only [goIt, goH, List.map_cons]
    by_cases hx : x.has.isStop = true
    · rw [if_pos hx, if_pos hx]
      cases o with
      | true =>
        rw [if_pos rfl, ih true _ (by
          intro z hz
          cases p with
          | none => simp at hz; subst hz; exact hx
          | some q => simp at hz; subst hz; exact hp _ rfl) (by simp)]
        cases p <;> rfl
      | false =>
        obtain rfl := ho rfl
        rw [if_neg (by simp), ih false none (by simp) (by simp)]
        rfl
    · rw [if_neg hx, if_neg hx]
      rw [List.map_append, List.map_cons, ih true none (by simp) (by simp)]
      cases p with
      | none => rfl
      | some z =>
        have := isStop_eq (hp z rfl)
        simp [this]

/-- what words say -/
def hasOf (ws : List Wd) : List Has := ws.map Wd.has

def sayW (ws : List Wd) : List Has × Bool × Bool := (goH false false (hasOf ws), stH false false (hasOf ws))

theorem sayW_append {ws ws' : List Wd} (h : sayW ws = sayW ws') (xs ys : List Wd) (hx : hasOf xs = hasOf ys) : sayW (ws ++ xs) = sayW (ws' ++ ys) := by
  unfold sayW at *
  have h1 := congrArg Prod.fst h
  have h2 := congrArg Prod.snd h
  simp only at h1 h2
  have e1 : hasOf (ws ++ xs) = hasOf ws ++ hasOf xs := by simp [hasOf]
  have e2 : hasOf (ws' ++ ys) = hasOf ws' ++ hasOf ys := by simp [hasOf]
  rw [e1, e2, hx, goH_append, goH_append, stH_append, stH_append, h1, h2]

/-- two readers that stand alike -/
structure Alike (st st' : Rd) : Prop where
  wrong : st.wrong = st'.wrong
  state : st.wrong = 0 → st.state = st'.state
  text : st.wrong = 0 → st.state = 0 ∨ st.state = 1 ∨ st.text = st'.text
  say : st.wrong = 0 → sayW st.words = sayW st'.words

theorem Alike.refl (st : Rd) : Alike st st := ⟨rfl, fun _ => rfl, fun _ => Or.inr (Or.inr rfl), fun _ => rfl⟩

theorem Alike.bad {st st' : Rd} (h : st.wrong ≠ 0) (h' : st.wrong = st'.wrong) : Alike st st' := ⟨h', fun e => absurd e h, fun e => absurd e h, fun e => absurd e h⟩

theorem fail_wrong (st : Rd) (e l c : Int) : (st.fail e l c).wrong = if st.wrong = 0 then e else st.wrong := by
  unfold Rd.fail
  split <;> rfl

theorem fail_stuck {st : Rd} (h : st.wrong ≠ 0) (e l c : Int) : st.fail e l c = st := by
  unfold Rd.fail
  rw [if_neg h]

theorem Alike.fail {st st' : Rd} (h : Alike st st') (e l c l' c' : Int) (he : e ≠ 0) : Alike (st.fail e l c) (st'.fail e l' c') := by
  refine Alike.bad ?_ ?_
  · rw [fail_wrong]
    split
    · exact he
    · assumption
  · rw [fail_wrong, fail_wrong, h.wrong]

theorem Alike.put {st st' : Rd} (h : Alike st st') (k : Int) (s : ByteArray) (n : Int) : Alike (st.put k s n) (st'.put k s n) :=
  ⟨h.wrong, h.state, h.text, fun e => sayW_append (h.say e) _ _ rfl⟩

theorem close1_stuck {st : Rd} (h : st.wrong ≠ 0) : st.close1.wrong = st.wrong := by
  unfold Rd.close1
  rw [fail_stuck h, fail_stuck h]
  repeat' split
  all_goals rfl

theorem close_stuck {st : Rd} (h : st.wrong ≠ 0) : st.close.wrong = st.wrong := close1_stuck h

theorem Alike.close1 {st st' : Rd} (h : Alike st st') : Alike st.close1 st'.close1 := by
  by_cases hw : st.wrong = 0
  · have hs := h.state hw
    unfold Rd.close1
    rw [← hs]
    by_cases h2 : st.state = 2
    · have ht : st.text = st'.text := by
        rcases h.text hw with q | q | q
        · omega
        · omega
        · exact q
      rw [if_pos h2, if_pos h2, ← ht]
      split
      · exact (h.fail _ _ _ _ _ (by decide)).put _ _ _
      · exact h.put _ _ _
    · rw [if_neg h2, if_neg h2]
      by_cases h4 : st.state = 4
      · have ht : st.text = st'.text := by
          rcases h.text hw with q | q | q
          · omega
          · omega
          · exact q
        rw [if_pos h4, if_pos h4, ← ht]
        split
        · exact (h.fail _ _ _ _ _ (by decide)).put _ _ _
        · exact h.put _ _ _
      · rw [if_neg h4, if_neg h4]
        split
        · exact h.fail _ _ _ _ _ (by decide)
        · exact h
  · exact Alike.bad (by rw [close1_stuck hw]; exact hw) (by rw [close1_stuck hw, close1_stuck (by rw [← h.wrong]; exact hw)]; exact h.wrong)

theorem Alike.close {st st' : Rd} (h : Alike st st') : Alike st.close st'.close :=
  ⟨h.close1.wrong, fun _ => rfl, fun _ => Or.inl rfl, h.close1.say⟩

theorem Alike.with {st st' : Rd} (h : Alike st st') {t t' : Rd} (hw : t.wrong = st.wrong) (hw' : t'.wrong = st'.wrong) (hs : t.state = t'.state) (ht : t.text = t'.text) (hws : t.words = st.words) (hws' : t'.words = st'.words) : Alike t t' :=
  ⟨by rw [hw, hw', h.wrong], fun _ => hs, fun _ => Or.inr (Or.inr ht), fun e => by rw [hws, hws']; exact h.say (by rw [← hw]; exact e)⟩

theorem Alike.begin {st st' : Rd} (h : Alike st st') (hs : st.wrong = 0 → st.state = st'.state) (c : Int) : Alike (st.begin c) (st'.begin c) := by
  have hf : Alike (st.fresh c) (st'.fresh c) := ⟨h.wrong, hs, fun _ => Or.inr (Or.inr rfl), h.say⟩
  unfold Rd.begin
  repeat' split
  all_goals first
    | exact hf.with rfl rfl rfl rfl rfl rfl
    | exact hf.put _ _ _
    | exact hf.fail _ _ _ _ _ (by decide)
    | exact hf

theorem begin_stuck {st : Rd} (h : st.wrong ≠ 0) (c : Int) : (st.begin c).wrong = st.wrong := by
  unfold Rd.begin
  repeat' split
  all_goals first
    | rfl
    | exact (congrArg Rd.wrong (fail_stuck (st := st.fresh c) h 6 st.line st.col)).trans rfl

theorem take_stuck {st : Rd} (h : st.wrong ≠ 0) (c : Int) : (st.take c).wrong = st.wrong := by
  unfold Rd.take
  have h1 := close_stuck h
  have h2 : st.close.wrong ≠ 0 := by rw [h1]; exact h
  rw [fail_stuck h2]
  repeat' split
  all_goals first
    | rfl
    | exact begin_stuck (st := { st with state := 0 }) h _
    | (rw [begin_stuck (by rw [close_stuck h2]; exact h2), close_stuck h2]; exact h1)
    | (rw [begin_stuck h2]; exact h1)

theorem over_wrong (st : Rd) (r : Int) : (st.over r).wrong = st.wrong := by
  unfold Rd.over
  split <;> rfl

theorem Alike.over {st st' : Rd} (h : Alike st st') (r : Int) : Alike (st.over r) (st'.over r) := by
  unfold Rd.over
  split
  · exact ⟨h.wrong, h.state, h.text, h.say⟩
  · exact ⟨h.wrong, h.state, h.text, h.say⟩

theorem Alike.take {st st' : Rd} (h : Alike st st') (c : Int) : Alike (st.take c) (st'.take c) := by
  by_cases hw : st.wrong = 0
  · have hs := h.state hw
    unfold Rd.take
    rw [← hs]
    by_cases h1 : st.state = 1
    · rw [if_pos h1, if_pos h1]
      split
      · exact Alike.begin (st := { st with state := 0 }) (st' := { st' with state := 0 }) ⟨h.wrong, fun _ => rfl, fun _ => Or.inl rfl, h.say⟩ (fun _ => rfl) _
      · exact h
    · rw [if_neg h1, if_neg h1]
      have ht : st.state = 0 ∨ st.text = st'.text := by
        rcases h.text hw with q | q | q
        · exact Or.inl q
        · exact absurd q h1
        · exact Or.inr q
      by_cases h2 : st.state = 2 ∧ (letterB c = true ∨ digitB c = true)
      · rw [if_pos h2, if_pos h2]
        have ht2 : st.text = st'.text := by rcases ht with q | q; omega; exact q
        exact h.with rfl rfl hs (by simp [Rd.more, ht2]) rfl rfl
      · rw [if_neg h2, if_neg h2]
        by_cases h3 : (st.state = 3 ∨ st.state = 4) ∧ digitB c = true
        · rw [if_pos h3, if_pos h3]
          have ht2 : st.text = st'.text := by rcases ht with q | q; omega; exact q
          exact h.with rfl rfl rfl (by simp [Rd.more, ht2]) rfl rfl
        · rw [if_neg h3, if_neg h3]
          split
          · exact Alike.begin (Alike.close (h.close.fail _ _ _ _ _ (by decide))) (fun _ => rfl) _
          · exact Alike.begin h.close (fun _ => rfl) _
  · exact Alike.bad (by rw [take_stuck hw]; exact hw) (by rw [take_stuck hw, take_stuck (by rw [← h.wrong]; exact hw)]; exact h.wrong)

theorem Alike.go {st st' : Rd} (h : Alike st st') (c : Int) : Alike (st.go c) (st'.go c) := (h.take c).over c

theorem go_stuck {st : Rd} (h : st.wrong ≠ 0) (c : Int) : (st.go c).wrong = st.wrong := by
  unfold Rd.go
  rw [over_wrong, take_stuck h]

theorem Alike.look {st st' : Rd} (h : Alike st st') (b : Bool) : Alike (st.look b) (st'.look b) := by
  unfold Rd.look
  split
  · exact h.close.fail _ _ _ _ _ (by decide)
  · exact h

theorem look_stuck {st : Rd} (h : st.wrong ≠ 0) (b : Bool) : (st.look b).wrong = st.wrong := by
  unfold Rd.look
  split
  · rw [fail_stuck (by rw [close_stuck h]; exact h), close_stuck h]
  · rfl

theorem rdR_stuck {st : Rd} (h : st.wrong ≠ 0) (l : List (Option Int)) : (rdR l st).wrong = st.wrong := by
  cases l with
  | nil => rfl
  | cons x t =>
    rw [rdR, if_neg (by rw [look_stuck h]; exact h), look_stuck h]

/-! The reader at rest: a space, a remark, an empty line. -/

theorem close_rest {st : Rd} (h : st.state = 0) : st.close = { st with text := [], state := 0 } := by
  unfold Rd.close Rd.close1
  rw [h]
  rfl

theorem take_rest {st : Rd} (h : st.state = 0) (c : Int) : st.take c = ({ st with text := [], state := 0 } : Rd).begin c := by
  unfold Rd.take
  rw [h, if_neg (by decide), if_neg (by simp), if_neg (by simp), if_neg (by simp), close_rest h]

/-- a step that changes nothing but places -/
def Quiet (st st' : Rd) : Prop := st'.wrong = st.wrong ∧ st'.state = 0 ∧ st'.words = st.words

theorem Quiet.over {st st' : Rd} (h : Quiet st st') (c : Int) : Quiet st (st'.over c) := by
  unfold Rd.over
  split <;> exact h

theorem go_blank {st : Rd} (h : st.state = 0) (c : Int) (hc : c = 32 ∨ c = 9) : Quiet st (st.go c) := by
  refine Quiet.over ?_ c
  rw [take_rest h]
  rcases hc with rfl | rfl <;> exact ⟨rfl, rfl, rfl⟩

theorem go_semi {st : Rd} (h : st.state = 0) : (st.go 59).wrong = st.wrong ∧ (st.go 59).state = 1 ∧ (st.go 59).words = st.words := by
  unfold Rd.go
  rw [take_rest h]
  exact ⟨rfl, rfl, rfl⟩

theorem go_remark {st : Rd} (h : st.state = 1) (c : Int) (hc : c ≠ 10) : (st.go c).wrong = st.wrong ∧ (st.go c).state = 1 ∧ (st.go c).words = st.words := by
  unfold Rd.go Rd.take Rd.over
  rw [if_pos h, if_neg hc, if_neg hc]
  exact ⟨rfl, h, rfl⟩

/-- behind a line's end the reader is at rest, and the last word is an end -/
theorem go_end (st : Rd) : (st.go 10).state = 0 ∧ ∃ X x, (st.go 10).words = X ++ [x] ∧ x.has = .stop := by
  have hb : ∀ s : Rd, s.state = 0 → (s.begin 10).state = 0 ∧ ∃ X x, (s.begin 10).words = X ++ [x] ∧ x.has = .stop := fun s hs => ⟨hs, s.words, _, rfl, rfl⟩
  have ht : (st.take 10).state = 0 ∧ ∃ X x, (st.take 10).words = X ++ [x] ∧ x.has = .stop := by
    unfold Rd.take
    split
    · exact hb { st with state := 0 } rfl
    · rw [if_neg (by rintro ⟨_, h⟩; revert h; decide), if_neg (by rintro ⟨_, h⟩; revert h; decide), if_neg (by rintro ⟨_, h⟩; revert h; decide)]
      exact hb _ rfl
  exact ht

theorem go_end_rest {st : Rd} (h : st.state = 0 ∨ st.state = 1) : (st.go 10).wrong = st.wrong ∧ (st.go 10).state = 0 ∧ ∃ x : Wd, (st.go 10).words = st.words ++ [x] ∧ x.has = .stop := by
  rcases h with h | h
  · unfold Rd.go
    rw [take_rest h]
    exact ⟨rfl, rfl, _, rfl, rfl⟩
  · unfold Rd.go Rd.take
    rw [if_pos h, if_pos rfl]
    exact ⟨rfl, rfl, _, rfl, rfl⟩

theorem sayW_ends (ws : List Wd) (h : (sayW ws).2.2 = (sayW ws).2.1) (x : Wd) (hx : x.has = .stop) : sayW (ws ++ [x]) = sayW ws := by
  unfold sayW at *
  have e1 : hasOf (ws ++ [x]) = hasOf ws ++ [Has.stop] := by simp [hasOf, hx]
  rw [e1, goH_append, stH_append]
  simp only at h
  refine Prod.ext ?_ ?_
  · show goH false false (hasOf ws) ++ goH (stH false false (hasOf ws)).1 (stH false false (hasOf ws)).2 [Has.stop] = goH false false (hasOf ws)
    simp [goH, Has.isStop]
  · show stH (stH false false (hasOf ws)).1 (stH false false (hasOf ws)).2 [Has.stop] = stH false false (hasOf ws)
    simp only [stH, Has.isStop, if_true]
    exact Prod.ext rfl h.symm

theorem sayW_behind (X : List Wd) (x : Wd) (hx : x.has = .stop) : (sayW (X ++ [x])).2.2 = (sayW (X ++ [x])).2.1 := by
  unfold sayW
  have e1 : hasOf (X ++ [x]) = hasOf X ++ [Has.stop] := by simp [hasOf, hx]
  rw [e1, stH_append]
  rfl

theorem rdR_some {st : Rd} (h : st.wrong = 0) (c : Int) (t : List (Option Int)) : rdR (some c :: t) st = rdR t (st.go c) := by
  have e : st.look (some c).isNone = st := rfl
  rw [rdR, e, if_pos h]
  rfl

/-- the tail that is laid behind a line's end changes nothing but places -/
theorem rdR_wideTail {st : Rd} (h0 : st.state = 0) (hw : st.wrong = 0) (hp : (sayW st.words).2.2 = (sayW st.words).2.1) (M : List (Option Int)) :
    ∃ st', rdR (wideTailR ++ M) st = rdR M st' ∧ Alike st st' := by
  show ∃ st', rdR (some 9 :: some 59 :: some 32 :: some 8594 :: some 10 :: some 10 :: some 32 :: M) st = rdR M st' ∧ Alike st st'
  obtain ⟨a1, a2, a3⟩ := go_blank h0 9 (Or.inr rfl)
  obtain ⟨b1, b2, b3⟩ := go_semi a2
  obtain ⟨c1, c2, c3⟩ := go_remark b2 32 (by decide)
  obtain ⟨d1, d2, d3⟩ := go_remark c2 8594 (by decide)
  obtain ⟨e1, e2, x, e3, e4⟩ := go_end_rest (Or.inr d2)
  obtain ⟨f1, f2, y, f3, f4⟩ := go_end_rest (Or.inl e2)
  obtain ⟨g1, g2, g3⟩ := go_blank f2 32 (Or.inl rfl)
  rw [rdR_some hw, rdR_some (a1.trans hw), rdR_some (b1.trans (a1.trans hw)), rdR_some (c1.trans (b1.trans (a1.trans hw))), rdR_some (d1.trans (c1.trans (b1.trans (a1.trans hw)))),
    rdR_some (e1.trans (d1.trans (c1.trans (b1.trans (a1.trans hw))))), rdR_some (f1.trans (e1.trans (d1.trans (c1.trans (b1.trans (a1.trans hw))))))]
  refine ⟨_, rfl, ?_, fun _ => by rw [h0, g2], fun _ => Or.inl h0, fun _ => ?_⟩
  · exact (g1.trans (f1.trans (e1.trans (d1.trans (c1.trans (b1.trans a1)))))).symm
  · rw [g3, f3, e3, d3, c3, b3, a3]
    rw [sayW_ends (st.words ++ [x]) (by rw [sayW_ends _ hp x e4]; exact hp) y f4, sayW_ends _ hp x e4]

/-- the lines that are laid ahead change nothing but places -/
theorem rdR_wideHead (M : List (Option Int)) : ∃ st', rdR (some 10 :: some 32 :: some 59 :: some 10 :: M) Rd.init = rdR M st' ∧ Alike Rd.init st' := by
  obtain ⟨e1, e2, x, e3, e4⟩ := go_end_rest (st := Rd.init) (Or.inl rfl)
  obtain ⟨a1, a2, a3⟩ := go_blank e2 32 (Or.inl rfl)
  obtain ⟨b1, b2, b3⟩ := go_semi a2
  obtain ⟨f1, f2, y, f3, f4⟩ := go_end_rest (Or.inr b2)
  have hw : Rd.init.wrong = 0 := rfl
  rw [rdR_some hw, rdR_some (e1.trans hw), rdR_some (a1.trans (e1.trans hw)), rdR_some (b1.trans (a1.trans (e1.trans hw)))]
  refine ⟨_, rfl, (f1.trans (b1.trans (a1.trans e1))).symm, fun _ => by rw [f2]; rfl, fun _ => Or.inl rfl, fun _ => ?_⟩
  have hp : (sayW Rd.init.words).2.2 = (sayW Rd.init.words).2.1 := rfl
  rw [f3, b3, a3, e3]
  rw [sayW_ends (Rd.init.words ++ [x]) (by rw [sayW_ends _ hp x e4]; exact hp) y f4, sayW_ends _ hp x e4]

theorem Alike.trans {a b c : Rd} (h : Alike a b) (k : Alike b c) : Alike a c := by
  refine ⟨h.wrong.trans k.wrong, fun e => (h.state e).trans (k.state (by rw [← h.wrong]; exact e)), fun e => ?_, fun e => (h.say e).trans (k.say (by rw [← h.wrong]; exact e))⟩
  have e' : b.wrong = 0 := by rw [← h.wrong]; exact e
  have hs := h.state e
  rcases h.text e with q | q | q
  · exact Or.inl q
  · exact Or.inr (Or.inl q)
  · rcases k.text e' with r | r | r
    · exact Or.inl (by rw [hs]; exact r)
    · exact Or.inr (Or.inl (by rw [hs]; exact r))
    · exact Or.inr (Or.inr (q.trans r))

theorem rdR_widen (L : List (Option Int)) : ∀ st st', Alike st st' → Alike (rdR L st) (rdR (widenR L) st') := by
  induction L with
  | nil => intro st st' h; exact h
  | cons x t ih =>
    intro st st' h
    have hl := h.look x.isNone
    rw [rdR, widenR, rdR]
    by_cases hw : (st.look x.isNone).wrong = 0
    · rw [if_pos hw, if_pos (by rw [← hl.wrong]; exact hw)]
      have hg := hl.go (x.getD 0)
      by_cases h10 : x = some 10
      · subst h10
        rw [if_pos rfl]
        obtain ⟨s0, X, y, hX, hy⟩ := go_end (st'.look false)
        by_cases hw2 : ((st'.look false).go 10).wrong = 0
        · obtain ⟨s2, e2, k2⟩ := rdR_wideTail s0 hw2 (by rw [hX]; exact sayW_behind X y hy) (widenR t)
          show Alike (rdR t ((st.look false).go 10)) (rdR (wideTailR ++ widenR t) ((st'.look false).go 10))
          rw [e2]
          exact ih _ _ (Alike.trans hg k2)
        · have hw3 : ((st.look false).go 10).wrong ≠ 0 := by rw [show ((st.look false).go 10).wrong = _ from hg.wrong]; exact hw2
          show Alike (rdR t ((st.look false).go 10)) (rdR (wideTailR ++ widenR t) ((st'.look false).go 10))
          exact Alike.bad (by rw [rdR_stuck hw3]; exact hw3) (by rw [rdR_stuck hw3, rdR_stuck hw2]; exact hg.wrong)
      · rw [if_neg h10]
        exact ih _ _ hg
    · rw [if_neg hw, if_neg (by rw [← hl.wrong]; exact hw)]
      exact hl

/-- a text, and the same with more empty lines, spaces, remarks -/
theorem rdAll_widen (s t : ByteArray) (ht : t.data.toList = wideHead ++ widen s.data.toList) : Alike (rdAll s) (rdAll t) := by
  rw [rdAll_runes, rdAll_runes, ht, runesU_wideHead, runesU_widen _ _ (Nat.le_refl _)]
  obtain ⟨st', e, h⟩ := rdR_wideHead (widenR (runesU s.data.toList))
  rw [e]
  exact (rdR_widen _ _ _ h).close

end Go.Proofs.YtfpjdgobannneaaDoor

/-
  The reader, word by word: plain laws (a name, a number, a sign at a time).
-/
namespace Go.Proofs.YtfpjdgobannneaaDoor
open Go Go.RowKit

/-- what a reader tells -/
def Rd.out (st : Rd) : List Wd × Int × Int × Int := if st.wrong = 0 then (st.words, 0, 0, 0) else ([], st.al, st.ac, st.wrong)

def endR (L : List (Option Int)) (st : Rd) : List Wd × Int × Int × Int := (rdR L st).close.out

theorem wordRead_end (s : ByteArray) : wordRead s = endR (runesU s.data.toList) Rd.init := by
  unfold wordRead endR
  rw [rdAll_runes]
  rfl

/-- the same error -/
def SameErr (a b : Rd) : Prop := a.wrong = b.wrong ∧ a.al = b.al ∧ a.ac = b.ac

theorem SameErr.out {a b : Rd} (h : SameErr a b) (hw : a.wrong ≠ 0) : a.out = b.out := by
  obtain ⟨h1, h2, h3⟩ := h
  unfold Rd.out
  rw [if_neg hw, if_neg (by rw [← h1]; exact hw), h1, h2, h3]

theorem close_same {st : Rd} (h : st.wrong ≠ 0) : SameErr st.close st := by
  unfold Rd.close Rd.close1
  rw [fail_stuck h, fail_stuck h]
  repeat' split
  all_goals exact ⟨rfl, rfl, rfl⟩

theorem begin_same {st : Rd} (h : st.wrong ≠ 0) (c : Int) : SameErr (st.begin c) st := by
  unfold Rd.begin
  rw [fail_stuck (st := st.fresh c) h]
  repeat' split
  all_goals exact ⟨rfl, rfl, rfl⟩

theorem SameErr.trans {a b c : Rd} (h : SameErr a b) (k : SameErr b c) : SameErr a c := ⟨h.1.trans k.1, h.2.1.trans k.2.1, h.2.2.trans k.2.2⟩

theorem over_same (st : Rd) (r : Int) : SameErr (st.over r) st := by
  unfold Rd.over
  split <;> exact ⟨rfl, rfl, rfl⟩

theorem look_same {st : Rd} (h : st.wrong ≠ 0) (b : Bool) : SameErr (st.look b) st := by
  unfold Rd.look
  split
  · have hc := close_same h
    rw [fail_stuck (by rw [hc.1]; exact h)]
    exact hc
  · exact ⟨rfl, rfl, rfl⟩

theorem rdR_same {st : Rd} (h : st.wrong ≠ 0) (L : List (Option Int)) : SameErr (rdR L st) st := by
  cases L with
  | nil => exact ⟨rfl, rfl, rfl⟩
  | cons x t =>
    have hl := look_same h x.isNone
    rw [rdR, if_neg (by rw [hl.1]; exact h)]
    exact hl

theorem endR_same {st : Rd} (h : st.wrong ≠ 0) (L : List (Option Int)) : endR L st = ([], st.al, st.ac, st.wrong) := by
  have h1 := rdR_same h L
  have h2 := (close_same (by rw [h1.1]; exact h)).trans h1
  unfold endR
  rw [h2.out (by rw [h2.1]; exact h)]
  unfold Rd.out
  rw [if_neg h]

/-- two broken readers tell the same if their errors are the same -/
theorem endR_err {a b : Rd} (h : SameErr a b) (hw : a.wrong ≠ 0) (L M : List (Option Int)) : endR L a = endR M b := by
  rw [endR_same hw, endR_same (by rw [← h.1]; exact hw), h.1, h.2.1, h.2.2]

theorem close_close (st : Rd) : st.close.close = st.close := close_rest rfl

/-- the rune ahead does not go on with the word -/
def Stops (st : Rd) (L : List (Option Int)) : Prop := ∀ c t, L = some c :: t → ¬ (st.state = 2 ∧ (letterB c = true ∨ digitB c = true)) ∧ ¬ ((st.state = 3 ∨ st.state = 4) ∧ digitB c = true) ∧ ¬ (st.state = 4 ∧ letterB c = true)

theorem endR_close {st : Rd} {L : List (Option Int)} (h1 : st.state ≠ 1) (hs : Stops st L) : endR L st = endR L st.close := by
  by_cases hw : st.wrong = 0
  · cases L with
    | nil =>
      unfold endR
      show st.close.out = st.close.close.out
      rw [close_close]
    | cons x t =>
      cases x with
      | none =>
        unfold endR
        have e1 : st.look true = st.close.fail 6 st.line st.col := by unfold Rd.look; rw [if_pos rfl]
        have e2 : st.close.look true = st.close.fail 6 st.line st.col := by
          unfold Rd.look
          rw [if_pos rfl, close_close, (close_line st).1, (close_line st).2]
        have e : rdR (none :: t) st = rdR (none :: t) st.close := by
          rw [rdR, rdR]
          show (if (st.look true).wrong = 0 then rdR t ((st.look true).go 0) else st.look true) = (if (st.close.look true).wrong = 0 then rdR t ((st.close.look true).go 0) else st.close.look true)
          rw [e1, e2]
        rw [e]
      | some c =>
        obtain ⟨a, b, d⟩ := hs c t rfl
        have ht : st.take c = st.close.begin c := by
          unfold Rd.take
          rw [if_neg h1, if_neg a, if_neg b, if_neg d]
        have ht2 : st.close.take c = st.close.begin c := by
          rw [take_rest rfl]
          rfl
        have hgo : st.go c = st.close.go c := by
          unfold Rd.go
          rw [ht, ht2]
        rw [show endR (some c :: t) st = endR t (st.go c) from by unfold endR; rw [rdR_some hw]]
        by_cases hc : st.close.wrong = 0
        · rw [show endR (some c :: t) st.close = endR t (st.close.go c) from by unfold endR; rw [rdR_some hc], hgo]
        · have hg : SameErr (st.go c) st.close := by
            unfold Rd.go
            rw [ht]
            exact (over_same _ _).trans (begin_same hc c)
          exact endR_err hg (by rw [hg.1]; exact hc) _ _
  · have hc := close_same hw
    exact endR_err ⟨hc.1.symm, hc.2.1.symm, hc.2.2.symm⟩ hw _ _

/-! A reader at rest. -/

/-- at rest: what it has got, where it stands -/
def rest (ws : List Wd) (l c : Int) : Rd := ⟨l, c, 0, 0, 0, [], ws, 0, 0, 0⟩

/-- a reader that is not broken: only its place, its state, its words, its text and where that began matter -/
structure Like (a b : Rd) : Prop where
  line : a.line = b.line
  col : a.col = b.col
  state : a.state = b.state
  words : a.words = b.words
  wrong : a.wrong = 0
  wrong' : b.wrong = 0

/-- two readers that are to tell the same whatever follows -/
def Twin (a b : Rd) : Prop := ∀ L, endR L a = endR L b

theorem Twin.refl (a : Rd) : Twin a a := fun _ => rfl

end Go.Proofs.YtfpjdgobannneaaDoor

/-
  The reader over a name, a number, a sign, a blank, a remark's rune, an end: plain laws.
-/
namespace Go.Proofs.YtfpjdgobannneaaDoor
open Go Go.RowKit

theorem runeB_ne {c : Int} (h : letterB c = true ∨ digitB c = true) : c ≠ 10 := by
  rintro rfl
  rcases h with h | h <;> revert h <;> decide

theorem letter_not_digit {c : Int} (h : letterB c = true) : digitB c = false := by
  unfold letterB at h
  unfold digitB
  simp only [Bool.or_eq_true, Bool.and_eq_true, beq_iff_eq, decide_eq_true_eq] at h
  by_cases h1 : 48 ≤ c
  · have : ¬ c ≤ 57 := by omega
    simp [this]
  · simp [h1]

theorem over_plain (st : Rd) {c : Int} (h : c ≠ 10) : st.over c = { st with col := st.col + 1 } := by
  unfold Rd.over
  rw [if_neg h]

theorem go_more {st : Rd} (hs : st.state = 2) {c : Int} (hc : letterB c = true ∨ digitB c = true) : st.go c = { st with text := st.text ++ [c], col := st.col + 1 } := by
  unfold Rd.go Rd.take
  rw [if_neg (by omega), if_pos ⟨hs, hc⟩, over_plain _ (runeB_ne hc)]
  rfl

theorem rdR_name (M : List (Option Int)) : ∀ (ns : List Int) (st : Rd), st.state = 2 → st.wrong = 0 → (∀ c ∈ ns, letterB c = true ∨ digitB c = true) → rdR (ns.map some ++ M) st = rdR M { st with text := st.text ++ ns, col := st.col + ns.length }
  | [], st, _, _, _ => by
    simp
  | c :: t, st, hs, hw, hc => by
    rw [List.map_cons, List.cons_append, rdR_some hw, go_more hs (hc c (by simp)), rdR_name M t _ (by exact hs) (by exact hw) (fun x hx => hc x (by simp [hx]))]
    congr 1
    simp only [List.append_assoc, List.singleton_append, List.length_cons, Rd.mk.injEq, true_and, and_true]
    omega

theorem go_dig {st : Rd} (hs : st.state = 3 ∨ st.state = 4) {c : Int} (hc : digitB c = true) : st.go c = { st with text := st.text ++ [c], col := st.col + 1, state := 4 } := by
  unfold Rd.go Rd.take
  rw [if_neg (by omega), if_neg (by omega), if_pos ⟨hs, hc⟩, over_plain _ (runeB_ne (Or.inr hc))]
  rfl

theorem rdR_digits (M : List (Option Int)) : ∀ (ns : List Int) (st : Rd), st.state = 4 → st.wrong = 0 → (∀ c ∈ ns, digitB c = true) → rdR (ns.map some ++ M) st = rdR M { st with text := st.text ++ ns, col := st.col + ns.length }
  | [], st, _, _, _ => by
    simp
  | c :: t, st, hs, hw, hc => by
    rw [List.map_cons, List.cons_append, rdR_some hw, go_dig (Or.inr hs) (hc c (by simp)), rdR_digits M t _ rfl (by exact hw) (fun x hx => hc x (by simp [hx]))]
    congr 1
    simp only [List.append_assoc, List.singleton_append, List.length_cons, Rd.mk.injEq, true_and, and_true, hs]
    omega

/-- a reader at rest: what it has got and where it stands -/
structure Rest (st : Rd) (ws : List Wd) (l c : Int) : Prop where
  state : st.state = 0
  wrong : st.wrong = 0
  words : st.words = ws
  line : st.line = l
  col : st.col = c

theorem endR_some {st : Rd} (h : st.wrong = 0) (c : Int) (t : List (Option Int)) : endR (some c :: t) st = endR t (st.go c) := by
  unfold endR
  rw [rdR_some h]

section
variable {st : Rd} {ws : List Wd} {l c : Int}

theorem Rest.go (h : Rest st ws l c) (r : Int) : st.go r = (({ st with text := [], state := 0 } : Rd).begin r).over r := by
  unfold Rd.go
  rw [take_rest h.state]

/-- a name -/
theorem Rest.name (h : Rest st ws l c) {a : Int} (ha : letterB a = true) {ns : List Int} (hn : ∀ x ∈ ns, letterB x = true ∨ digitB x = true) {M : List (Option Int)} (hM : ∀ x t, M = some x :: t → letterB x = false ∧ digitB x = false) :
    (16 < ns.length + 1 → endR (some a :: (ns.map some ++ M)) st = ([], l, c, 3)) ∧
    (¬ 16 < ns.length + 1 → ∃ st', Rest st' (ws ++ [⟨1, runesBytes (a :: ns), 0, l, c⟩]) l (c + ((ns.length + 1 : Nat) : Int)) ∧ endR (some a :: (ns.map some ++ M)) st = endR M st') := by
  obtain ⟨h1, h2, h3, h4, h5⟩ := h
  have hgo : st.go a = { st with fl := st.line, fc := st.col, text := [a], state := 2, col := st.col + 1 } := by
    unfold Rd.go
    rw [take_rest h1, Rd.begin, if_pos ha, over_plain _ (runeB_ne (Or.inl ha))]
    rfl
  have e1 : endR (some a :: (ns.map some ++ M)) st = endR M { st with fl := st.line, fc := st.col, text := a :: ns, state := 2, col := st.col + 1 + ns.length } := by
    rw [endR_some h2, hgo]
    unfold endR
    rw [rdR_name M ns _ (by rfl) (by exact h2) hn]
    rfl
  have e2 := endR_close (st := { st with fl := st.line, fc := st.col, text := a :: ns, state := 2, col := st.col + 1 + ns.length }) (L := M) (by show (2 : Int) ≠ 1; decide) (by
    intro x t hx
    obtain ⟨q1, q2⟩ := hM x t hx
    refine ⟨?_, ?_, ?_⟩
    · rintro ⟨_, q | q⟩
      · rw [q1] at q; cases q
      · rw [q2] at q; cases q
    · rintro ⟨q | q, _⟩ <;> cases q
    · rintro ⟨q, _⟩; cases q)
  rw [e1, e2]
  refine ⟨fun hl => ?_, fun hl => ?_⟩
  · have e3 : SameErr (({ st with fl := st.line, fc := st.col, text := a :: ns, state := 2, col := st.col + 1 + ns.length } : Rd).close) ({ st with wrong := 3, al := st.line, ac := st.col } : Rd) := by
      unfold Rd.close Rd.close1
      rw [if_pos rfl, if_pos (by simpa using hl)]
      unfold Rd.fail
      rw [if_pos (by exact h2)]
      exact ⟨rfl, rfl, rfl⟩
    rw [endR_err (M := M) e3 (by rw [e3.1]; show (3 : Int) ≠ 0; decide), endR_same (by show (3 : Int) ≠ 0; decide)]
    show ([], st.line, st.col, 3) = _
    rw [h4, h5]
  · refine ⟨_, ?_, rfl⟩
    unfold Rd.close Rd.close1
    rw [if_pos rfl, if_neg (by simpa using hl)]
    refine ⟨rfl, h2, ?_, h4, ?_⟩
    · show st.words ++ [⟨1, runesBytes (a :: ns), 0, st.line, st.col⟩] = _
      rw [h3, h4, h5]
    · show st.col + 1 + (ns.length : Int) = _
      rw [h5]
      omega

/-- the number's text is no number, or too great -/
def NumBad (s : ByteArray) : Prop := (numOf s).2 = true ∨ (numOf s).1 < -1099511627776 ∨ 1099511627776 < (numOf s).1

/-- a number's runes: a minus or nothing, and digits -/
theorem Rest.number (h : Rest st ws l c) {ns : List Int} (hn : (∃ d ds, ns = d :: ds ∧ ∀ x ∈ d :: ds, digitB x = true) ∨ (∃ d ds, ns = 45 :: d :: ds ∧ ∀ x ∈ d :: ds, digitB x = true)) {M : List (Option Int)} (hM : ∀ x t, M = some x :: t → digitB x = false) :
    (NumBad (runesBytes ns) → endR (ns.map some ++ M) st = ([], l, c, 3)) ∧
    (¬ NumBad (runesBytes ns) → ∀ x t, M = some x :: t → letterB x = true → endR (ns.map some ++ M) st = ([], l, c + (ns.length : Int), 6)) ∧
    (¬ NumBad (runesBytes ns) → (∀ x t, M = some x :: t → letterB x = false) → ∃ st', Rest st' (ws ++ [⟨2, runesBytes ns, (numOf (runesBytes ns)).1, l, c⟩]) l (c + (ns.length : Int)) ∧ endR (ns.map some ++ M) st = endR M st') := by
  obtain ⟨h1, h2, h3, h4, h5⟩ := h
  have e1 : endR (ns.map some ++ M) st = endR M { st with fl := st.line, fc := st.col, text := ns, state := 4, col := st.col + ns.length } := by
    rcases hn with ⟨d, ds, rfl, hd⟩ | ⟨d, ds, rfl, hd⟩
    · have hd0 := hd d (by simp)
      have hnl : letterB d = false := by
        cases hq : letterB d with
        | false => rfl
        | true => rw [letter_not_digit hq] at hd0; cases hd0
      have hgo : st.go d = { st with fl := st.line, fc := st.col, text := [d], state := 4, col := st.col + 1 } := by
        unfold Rd.go
        rw [take_rest h1, Rd.begin, if_neg (by rw [hnl]; decide), if_pos hd0, over_plain _ (runeB_ne (Or.inr hd0))]
        rfl
      rw [List.map_cons, List.cons_append, endR_some h2, hgo]
      unfold endR
      rw [rdR_digits M ds _ (by rfl) (by exact h2) (fun x hx => hd x (by simp [hx]))]
      refine congrArg (fun x : Rd => (rdR M x).close.out) ?_
      simp only [List.singleton_append, List.length_cons, Rd.mk.injEq, true_and, and_true]
      omega
    · have hd0 := hd d (by simp)
      have hgo : st.go 45 = { st with fl := st.line, fc := st.col, text := [45], state := 3, col := st.col + 1 } := by
        unfold Rd.go
        rw [take_rest h1, Rd.begin, if_neg (by decide), if_neg (by decide), if_pos rfl, over_plain _ (by decide)]
        rfl
      rw [List.map_cons, List.cons_append, endR_some h2, hgo, List.map_cons, List.cons_append, endR_some (by exact h2), go_dig (Or.inl rfl) hd0]
      unfold endR
      rw [rdR_digits M ds _ (by rfl) (by exact h2) (fun x hx => hd x (by simp [hx]))]
      refine congrArg (fun x : Rd => (rdR M x).close.out) ?_
      simp only [List.cons_append, List.nil_append, List.length_cons, Rd.mk.injEq, true_and, and_true]
      omega
  have hbad : NumBad (runesBytes ns) → SameErr (({ st with fl := st.line, fc := st.col, text := ns, state := 4, col := st.col + ns.length } : Rd).close) ({ st with wrong := 3, al := st.line, ac := st.col } : Rd) := fun hb => by
    unfold Rd.close Rd.close1
    unfold NumBad at hb
    rw [if_neg (by show ¬ (4 : Int) = 2; decide), if_pos rfl]
    dsimp only
    rw [if_pos hb]
    unfold Rd.fail
    rw [if_pos (by exact h2)]
    exact ⟨rfl, rfl, rfl⟩
  have hgood : ¬ NumBad (runesBytes ns) → (({ st with fl := st.line, fc := st.col, text := ns, state := 4, col := st.col + ns.length } : Rd).close) = { st with fl := st.line, fc := st.col, text := [], state := 0, col := st.col + ns.length, words := st.words ++ [⟨2, runesBytes ns, (numOf (runesBytes ns)).1, st.line, st.col⟩] } := fun hb => by
    unfold Rd.close Rd.close1
    unfold NumBad at hb
    rw [if_neg (by show ¬ (4 : Int) = 2; decide), if_pos rfl]
    dsimp only
    rw [if_neg hb]
    rfl
  have hodd : ∀ x t, M = some x :: t → letterB x = true → endR M { st with fl := st.line, fc := st.col, text := ns, state := 4, col := st.col + ns.length } =
      endR t ((((({ st with fl := st.line, fc := st.col, text := ns, state := 4, col := st.col + ns.length } : Rd).close.fail 6 st.line (st.col + ns.length)).close).begin x).over x) := fun x t hx hl => by
    have hnd := hM x t hx
    rw [hx, endR_some (by exact h2)]
    unfold Rd.go Rd.take
    rw [if_neg (by show ¬ (4 : Int) = 1; decide), if_neg (by rintro ⟨q, _⟩; cases q), if_neg (by rintro ⟨_, q⟩; rw [hnd] at q; cases q), if_pos ⟨rfl, hl⟩]
  have hstop : (∀ x t, M = some x :: t → letterB x = false) → endR M { st with fl := st.line, fc := st.col, text := ns, state := 4, col := st.col + ns.length } = endR M ({ st with fl := st.line, fc := st.col, text := ns, state := 4, col := st.col + ns.length } : Rd).close := fun hl =>
    endR_close (by show (4 : Int) ≠ 1; decide) (by
      intro x t hx
      have q1 := hM x t hx
      have q2 := hl x t hx
      refine ⟨?_, ?_, ?_⟩
      · rintro ⟨q, _⟩; cases q
      · rintro ⟨_, q⟩; rw [q1] at q; cases q
      · rintro ⟨_, q⟩; rw [q2] at q; cases q)
  rw [e1]
  refine ⟨fun hb => ?_, fun hb x t hx hl => ?_, fun hb hl => ?_⟩
  · have hs := hbad hb
    have hw3 : ({ st with fl := st.line, fc := st.col, text := ns, state := 4, col := st.col + ns.length } : Rd).close.wrong ≠ 0 := by rw [hs.1]; show (3 : Int) ≠ 0; decide
    have fin : ∀ (L : List (Option Int)) (a : Rd), SameErr a ({ st with wrong := 3, al := st.line, ac := st.col } : Rd) → endR L a = ([], l, c, 3) := fun L a ha => by
      rw [endR_err (M := L) ha (by rw [ha.1]; show (3 : Int) ≠ 0; decide), endR_same (by show (3 : Int) ≠ 0; decide)]
      show ([], st.line, st.col, 3) = _
      rw [h4, h5]
    by_cases hx : ∃ x t, M = some x :: t ∧ letterB x = true
    · obtain ⟨x, t, hx, hl⟩ := hx
      rw [hodd x t hx hl]
      refine fin t _ ?_
      rw [fail_stuck hw3]
      have hc2 := close_same hw3
      exact ((over_same _ _).trans (begin_same (by rw [hc2.1]; exact hw3) _)).trans (hc2.trans hs)
    · rw [hstop (fun x t hxt => by
        cases hq : letterB x with
        | false => rfl
        | true => exact absurd ⟨x, t, hxt, hq⟩ hx)]
      exact fin M _ hs
  · rw [hodd x t hx hl, hgood hb]
    have hf : (({ st with fl := st.line, fc := st.col, text := [], state := 0, col := st.col + ns.length, words := st.words ++ [⟨2, runesBytes ns, (numOf (runesBytes ns)).1, st.line, st.col⟩] } : Rd).fail 6 st.line (st.col + ns.length)) =
        { st with fl := st.line, fc := st.col, text := [], state := 0, col := st.col + ns.length, words := st.words ++ [⟨2, runesBytes ns, (numOf (runesBytes ns)).1, st.line, st.col⟩], wrong := 6, al := st.line, ac := st.col + ns.length } := by
      unfold Rd.fail
      rw [if_pos (by exact h2)]
    rw [hf]
    have hw6 : ({ st with fl := st.line, fc := st.col, text := [], state := 0, col := st.col + ns.length, words := st.words ++ [⟨2, runesBytes ns, (numOf (runesBytes ns)).1, st.line, st.col⟩], wrong := 6, al := st.line, ac := st.col + ns.length } : Rd).wrong ≠ 0 := by show (6 : Int) ≠ 0; decide
    have hc2 := close_same hw6
    have hall := ((over_same _ x).trans (begin_same (by rw [hc2.1]; exact hw6) x)).trans hc2
    rw [endR_err (M := t) hall (by rw [hall.1]; exact hw6), endR_same hw6]
    show ([], st.line, st.col + (ns.length : Int), 6) = _
    rw [h4, h5]
  · refine ⟨_, ?_, hstop hl⟩
    rw [hgood hb]
    refine ⟨rfl, h2, ?_, h4, ?_⟩
    · show st.words ++ [⟨2, runesBytes ns, (numOf (runesBytes ns)).1, st.line, st.col⟩] = _
      rw [h3, h4, h5]
    · show st.col + (ns.length : Int) = _
      rw [h5]

/-- a sign -/
theorem Rest.sign (h : Rest st ws l c) {a : Int} (ha : signB a = true) (M : List (Option Int)) : ∃ st', Rest st' (ws ++ [⟨3, Utf8.encode a, 0, l, c⟩]) l (c + 1) ∧ endR (some a :: M) st = endR M st' := by
  have hne : a = 61 ∨ a = 44 ∨ a = 58 ∨ a = 40 ∨ a = 41 ∨ a = 91 ∨ a = 93 ∨ a = 43 ∨ a = 8594 ∨ a = 8592 ∨ a = 183 := by
    unfold signB at ha
    simp only [Bool.or_eq_true, beq_iff_eq] at ha
    omega
  have hl : letterB a = false := by rcases hne with rfl | rfl | rfl | rfl | rfl | rfl | rfl | rfl | rfl | rfl | rfl <;> decide
  have hd : digitB a = false := by rcases hne with rfl | rfl | rfl | rfl | rfl | rfl | rfl | rfl | rfl | rfl | rfl <;> decide
  obtain ⟨h1, h2, h3, h4, h5⟩ := h
  refine ⟨st.go a, ?_, endR_some h2 a M⟩
  unfold Rd.go
  rw [take_rest h1, Rd.begin, if_neg (by rw [hl]; decide), if_neg (by rw [hd]; decide), if_neg (by omega), if_neg (by omega), if_neg (by omega), if_pos ha, over_plain _ (by omega)]
  refine ⟨rfl, h2, ?_, h4, ?_⟩
  · show st.words ++ [⟨3, Utf8.encode a, 0, st.line, st.col⟩] = _
    rw [h3, h4, h5]
  · show st.col + 1 = _
    rw [h5]

/-- a blank -/
theorem Rest.blank (h : Rest st ws l c) {a : Int} (ha : a = 32 ∨ a = 9) (M : List (Option Int)) : ∃ st', Rest st' ws l (c + 1) ∧ endR (some a :: M) st = endR M st' := by
  obtain ⟨h1, h2, h3, h4, h5⟩ := h
  refine ⟨st.go a, ?_, endR_some h2 a M⟩
  unfold Rd.go
  rw [take_rest h1]
  rcases ha with rfl | rfl
  · exact ⟨rfl, h2, h3, h4, by show st.col + 1 = _; rw [h5]⟩
  · exact ⟨rfl, h2, h3, h4, by show st.col + 1 = _; rw [h5]⟩

/-- in a remark -/
structure Rem (st : Rd) (ws : List Wd) (l c : Int) : Prop where
  state : st.state = 1
  wrong : st.wrong = 0
  words : st.words = ws
  line : st.line = l
  col : st.col = c

theorem Rest.semi (h : Rest st ws l c) (M : List (Option Int)) : ∃ st', Rem st' ws l (c + 1) ∧ endR (some 59 :: M) st = endR M st' := by
  obtain ⟨h1, h2, h3, h4, h5⟩ := h
  refine ⟨st.go 59, ?_, endR_some h2 59 M⟩
  unfold Rd.go
  rw [take_rest h1]
  exact ⟨rfl, h2, h3, h4, by show st.col + 1 = _; rw [h5]⟩

theorem Rem.rune (h : Rem st ws l c) {a : Int} (ha : a ≠ 10) (M : List (Option Int)) : ∃ st', Rem st' ws l (c + 1) ∧ endR (some a :: M) st = endR M st' := by
  obtain ⟨h1, h2, h3, h4, h5⟩ := h
  refine ⟨st.go a, ?_, endR_some h2 a M⟩
  unfold Rd.go Rd.take
  rw [if_pos h1, if_neg ha, over_plain _ ha]
  exact ⟨h1, h2, h3, h4, by show st.col + 1 = _; rw [h5]⟩

theorem Rest.stop (h : Rest st ws l c) (M : List (Option Int)) : ∃ st', Rest st' (ws ++ [⟨4, ⟨#[]⟩, 0, l, c⟩]) (l + 1) 1 ∧ endR (some 10 :: M) st = endR M st' := by
  obtain ⟨h1, h2, h3, h4, h5⟩ := h
  refine ⟨st.go 10, ?_, endR_some h2 10 M⟩
  unfold Rd.go
  rw [take_rest h1]
  refine ⟨rfl, h2, ?_, ?_, rfl⟩
  · show st.words ++ [⟨4, ⟨#[]⟩, 0, st.line, st.col⟩] = _
    rw [h3, h4, h5]
  · show st.line + 1 = _
    rw [h4]

theorem Rem.stop (h : Rem st ws l c) (M : List (Option Int)) : ∃ st', Rest st' (ws ++ [⟨4, ⟨#[]⟩, 0, l, c⟩]) (l + 1) 1 ∧ endR (some 10 :: M) st = endR M st' := by
  obtain ⟨h1, h2, h3, h4, h5⟩ := h
  refine ⟨st.go 10, ?_, endR_some h2 10 M⟩
  unfold Rd.go Rd.take
  rw [if_pos h1, if_pos rfl]
  refine ⟨rfl, h2, ?_, ?_, rfl⟩
  · show st.words ++ [⟨4, ⟨#[]⟩, 0, st.line, st.col⟩] = _
    rw [h3, h4, h5]
  · show st.line + 1 = _
    rw [h4]

/-- any other rune ends it -/
theorem Rest.odd (h : Rest st ws l c) {a : Int} (h1 : letterB a = false) (h2 : digitB a = false) (h45 : a ≠ 45) (h59 : a ≠ 59) (h10 : a ≠ 10) (h3 : signB a = false) (h32 : a ≠ 32) (h9 : a ≠ 9) (M : List (Option Int)) : endR (some a :: M) st = ([], l, c, 6) := by
  obtain ⟨q1, q2, q3, q4, q5⟩ := h
  have hb : ({ st with text := [], state := 0 } : Rd).begin a = ((({ st with text := [], state := 0 } : Rd).fresh a).fail 6 st.line st.col) := by
    rw [Rd.begin, if_neg (by rw [h1]; decide), if_neg (by rw [h2]; decide), if_neg h45, if_neg h59, if_neg h10, if_neg (by rw [h3]; decide), if_pos ⟨h32, h9⟩]
  have hf : ((({ st with text := [], state := 0 } : Rd).fresh a).fail 6 st.line st.col) = { (({ st with text := [], state := 0 } : Rd).fresh a) with wrong := 6, al := st.line, ac := st.col } := by
    unfold Rd.fail
    rw [if_pos (by exact q2)]
  rw [endR_some q2]
  unfold Rd.go
  rw [take_rest q1, hb, hf, over_plain _ h10, endR_same (by show (6 : Int) ≠ 0; decide)]
  show ([], st.line, st.col, 6) = _
  rw [q4, q5]

/-- a minus with no digit behind it -/
theorem Rest.minus (h : Rest st ws l c) {M : List (Option Int)} (hM : ∀ x t, M = some x :: t → digitB x = false) : endR (some 45 :: M) st = ([], l, c, 6) := by
  obtain ⟨h1, h2, h3, h4, h5⟩ := h
  have hgo : st.go 45 = { st with fl := st.line, fc := st.col, text := [45], state := 3, col := st.col + 1 } := by
    unfold Rd.go
    rw [take_rest h1, Rd.begin, if_neg (by decide), if_neg (by decide), if_pos rfl, over_plain _ (by decide)]
    rfl
  have hc : ({ st with fl := st.line, fc := st.col, text := [45], state := 3, col := st.col + 1 } : Rd).close = { st with fl := st.line, fc := st.col, text := [], state := 0, col := st.col + 1, wrong := 6, al := st.line, ac := st.col } := by
    unfold Rd.close Rd.close1
    rw [if_neg (by show ¬ (3 : Int) = 2; decide), if_neg (by show ¬ (3 : Int) = 4; decide), if_pos rfl]
    unfold Rd.fail
    rw [if_pos (by exact h2)]
  rw [endR_some h2, hgo, endR_close (by show (3 : Int) ≠ 1; decide) (by
    intro x t hx
    have q1 := hM x t hx
    refine ⟨?_, ?_, ?_⟩
    · rintro ⟨q, _⟩; cases q
    · rintro ⟨_, q⟩; rw [q1] at q; cases q
    · rintro ⟨q, _⟩; cases q), hc, endR_same (by show (6 : Int) ≠ 0; decide)]
  show ([], st.line, st.col, 6) = _
  rw [h4, h5]

/-- nothing is ahead -/
theorem Rest.done (h : Rest st ws l c) : endR [] st = (ws, 0, 0, 0) := by
  obtain ⟨h1, h2, h3, h4, h5⟩ := h
  unfold endR
  show st.close.out = _
  rw [close_rest h1]
  unfold Rd.out
  rw [if_pos (by exact h2)]
  show (st.words, 0, 0, 0) = _
  rw [h3]

theorem Rem.done (h : Rem st ws l c) : endR [] st = (ws, 0, 0, 0) := by
  obtain ⟨h1, h2, h3, h4, h5⟩ := h
  unfold endR
  show st.close.out = _
  unfold Rd.close Rd.close1
  rw [if_neg (by omega), if_neg (by omega), if_neg (by omega)]
  unfold Rd.out
  rw [if_pos (by exact h2)]
  show (st.words, 0, 0, 0) = _
  rw [h3]

/-- a byte that begins no rune -/
theorem Rest.bad (h : Rest st ws l c) : endR [none] st = ([], l, c, 6) := by
  obtain ⟨h1, h2, h3, h4, h5⟩ := h
  have hl : st.look true = { st with text := [], state := 0, wrong := 6, al := st.line, ac := st.col } := by
    unfold Rd.look
    rw [if_pos rfl, close_rest h1]
    unfold Rd.fail
    rw [if_pos (by exact h2)]
  unfold endR
  rw [rdR]
  show (if (st.look true).wrong = 0 then _ else st.look true).close.out = _
  rw [hl, if_neg (by show ¬ (6 : Int) = 0; decide), close_rest rfl]
  unfold Rd.out
  rw [if_neg (by show ¬ (6 : Int) = 0; decide)]
  show ([], st.line, st.col, 6) = _
  rw [h4, h5]

theorem Rem.bad (h : Rem st ws l c) : endR [none] st = ([], l, c, 6) := by
  obtain ⟨h1, h2, h3, h4, h5⟩ := h
  have hl : st.look true = { st with text := [], state := 0, wrong := 6, al := st.line, ac := st.col } := by
    unfold Rd.look Rd.close Rd.close1
    rw [if_pos rfl, if_neg (by omega), if_neg (by omega), if_neg (by omega)]
    unfold Rd.fail
    rw [if_pos (by exact h2)]
  unfold endR
  rw [rdR]
  show (if (st.look true).wrong = 0 then _ else st.look true).close.out = _
  rw [hl, if_neg (by show ¬ (6 : Int) = 0; decide), close_rest rfl]
  unfold Rd.out
  rw [if_neg (by show ¬ (6 : Int) = 0; decide)]
  show ([], st.line, st.col, 6) = _
  rw [h4, h5]

end
end Go.Proofs.YtfpjdgobannneaaDoor
