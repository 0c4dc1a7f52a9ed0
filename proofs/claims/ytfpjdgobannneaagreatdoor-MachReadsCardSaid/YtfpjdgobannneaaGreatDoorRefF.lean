
/-
  The document's small functions over texts (at, run): what they tell; plain laws.
-/
import Derived.Test.YtfpjdgobannneaaGreatDoorRefPb
import Derived.Test.YtfpjdgobannneaaGreatDoorRuneE
import Derived.Test.YtfpjdgobannneaaGreatDoorBytesA
namespace Go.Proofs.YtfpjdgobannneaaGreatDoor
open Go Go.RowKit Go.Lib Go.Proofs.YtfpjdgobannneaaGreatDoor.Ref Go.Proofs.YtfpjdgobannneaaGreatDoorW.PrintWords

/-- told from some number of rounds on -/
def Ev {α : Type} (f : Nat → Option α) (r : α) : Prop := ∃ K, ∀ k, K ≤ k → f k = some r

theorem Ev.const {α : Type} (r : α) : Ev (fun _ => some r) r := ⟨0, fun _ _ => rfl⟩

theorem Ev.of {α : Type} {f : Nat → Option α} {r : α} (h : ∀ k, f k = some r) : Ev f r := ⟨0, fun k _ => h k⟩

theorem Ev.step {α : Type} {f g : Nat → Option α} {r : α} (h : Ev g r) (e : ∀ k, f (k + 1) = g k) : Ev f r := by
  obtain ⟨K, hK⟩ := h
  refine ⟨K + 1, fun k hk => ?_⟩
  obtain ⟨j, rfl⟩ : ∃ j, k = j + 1 := ⟨k - 1, by omega⟩
  rw [e]
  exact hK j (by omega)

theorem Ev.congr {α : Type} {f g : Nat → Option α} {r : α} (h : Ev g r) (e : ∀ k, f k = g k) : Ev f r := by
  obtain ⟨K, hK⟩ := h
  exact ⟨K, fun k hk => by rw [e]; exact hK k hk⟩

theorem Ev.bind {α β : Type} {a : Nat → Option α} {x : α} {b : Nat → α → Option β} {r : β} (h : Ev a x) (k : Ev (fun n => b n x) r) : Ev (fun n => (a n).bind (b n)) r := by
  obtain ⟨K, hK⟩ := h
  obtain ⟨M, hM⟩ := k
  exact ⟨max K M, fun n hn => by
    show (a n).bind (b n) = _
    rw [hK n (by omega)]
    exact hM n (by omega)⟩

theorem w64 {x : Int} (h0 : -9223372036854775808 ≤ x) (h1 : x < 9223372036854775808) : wrap64 x = x := by
  unfold wrap64
  omega

theorem w32 {x : Int} (h0 : -2147483648 ≤ x) (h1 : x < 2147483648) : wrap32 x = x := by
  unfold wrap32
  omega

theorem within_eq (a b c : Int) : intarsiaref01_within.f a b c = some (decide (b ≤ a ∧ a ≤ c)) := by
  unfold intarsiaref01_within.f
  by_cases h : a ≥ b
  · rw [if_pos h]
    have : b ≤ a := h
    simp [this]
  · rw [if_neg h]
    have : ¬ b ≤ a := h
    simp [this]

theorem bt_list (s : ByteArray) (i : Nat) (h : i < s.size) : bt s (i : Int) = ((s.data.toList.drop i).getD 0 0).toNat := by
  unfold bt
  rw [dif_pos (by simpa using h)]
  congr 2
  simp only [Int.toNat_natCast]
  rw [List.getD_eq_getElem?_getD, List.getElem?_drop, Nat.add_zero, Array.getElem?_toList]
  rw [Array.getElem?_eq_getElem (show i < s.data.size from h)]
  rfl

theorem bt_next (s : ByteArray) (i j : Nat) (h : i + j < s.size) : bt s ((i + j : Nat) : Int) = ((s.data.toList.drop i).getD j 0).toNat := by
  rw [bt_list s (i + j) h]
  congr 1
  rw [List.getD_eq_getElem?_getD, List.getD_eq_getElem?_getD, List.getElem?_drop, List.getElem?_drop]
  rfl

/-- the rune ahead and how many bytes it has; none: 0, 0 -/
def atU : List UInt8 → Int × Int
  | [] => (0, 0)
  | b :: r => if badL (b :: r) = true then (0, 0) else ((decodeL (b :: r)).1, (decodeL (b :: r)).2)

def finE (m least v : Int) : Int × Int := if v < least ∨ v > 1114111 ∨ (55296 ≤ v ∧ v ≤ 57343) then (0, 0) else (v, m)

theorem at_end (k : Nat) (s : ByteArray) (x1 x7 x8 x9 : Int) : intarsiaref01_at.l0 (k + 1) s x1 x7 x8 x9 x7 = some (finE x7 x8 x9) := by
  rw [intarsiaref01_at.l0, if_neg (by omega)]
  unfold finE
  rw [within_eq, Option.bind_some]
  by_cases a : x9 < x8
  · rw [if_pos a, if_pos (Or.inl a)]
  · rw [if_neg a]
    by_cases b : x9 > 1114111
    · rw [if_pos b, if_pos (Or.inr (Or.inl b))]
    · rw [if_neg b]
      by_cases c : 55296 ≤ x9 ∧ x9 ≤ 57343
      · rw [if_pos (by simpa using c), if_pos (Or.inr (Or.inr c))]
      · rw [if_neg (by simpa using c), if_neg (by rintro (h | h | h); exact a h; exact b h; exact c h)]

theorem at_more (k : Nat) (s : ByteArray) (i j : Nat) (x7 x8 x9 : Int) (hs : s.size ≤ 1000000000) (hj : (j : Int) < x7) (hl : i + j < s.size) (h9 : 0 ≤ x9) (h9' : x9 ≤ 1000000) (b : Nat) (hb : bt s ((i + j : Nat) : Int) = b) (hb2 : b ≤ 255) :
    intarsiaref01_at.l0 (k + 1) s i x7 x8 x9 j = if 128 ≤ b ∧ b ≤ 191 then intarsiaref01_at.l0 k s i x7 x8 (64 * x9 + b - 128) ((j + 1 : Nat) : Int) else some (0, 0) := by
  have e1 : wrap64 ((i : Int) + j) = ((i + j : Nat) : Int) := by rw [w64 (by omega) (by omega)]; omega
  rw [intarsiaref01_at.l0, if_pos hj, e1, if_pos (by omega), if_pos (by omega), hb, within_eq, Option.bind_some, w32 (x := (b : Int)) (by omega) (by omega), w32 (x := 64 * x9) (by omega) (by omega), w32 (x := 64 * x9 + b) (by omega) (by omega),
    w32 (x := 64 * x9 + b - 128) (by omega) (by omega), w64 (x := (j : Int) + 1) (by omega) (by omega)]
  by_cases c : 128 ≤ b ∧ b ≤ 191
  · rw [if_pos c, if_pos (by simp; omega)]
    rfl
  · rw [if_neg c, if_neg (by simp; omega)]

theorem at_begin (k : Nat) (s : ByteArray) (i m : Nat) (x8 x9 : Int) (hs : s.size ≤ 1000000000) (hi : i ≤ s.size) (hm : m ≤ 4) :
    intarsiaref01_at.j0 (k + 2) s i m x8 x9 = if m = 0 ∨ s.size < i + m then some (0, 0) else intarsiaref01_at.l0 k s i m x8 x9 ((1 : Nat) : Int) := by
  rw [intarsiaref01_at.j0, w64 (x := (i : Int) + m) (by omega) (by omega)]
  by_cases h0 : m = 0
  · subst h0
    rw [if_pos (by rfl), if_pos (Or.inl rfl), intarsiaref01_at.j1, if_pos rfl]
  · rw [if_neg (by omega), intarsiaref01_at.j1]
    by_cases h1 : s.size < i + m
    · rw [if_pos (Or.inr h1), if_pos (by simp; omega)]
    · have hn : ¬ (m = 0 ∨ s.size < i + m) := by omega
      rw [if_neg hn, if_neg (by simp; omega)]
      rfl

/-- the same in one formula: n bytes are left, b0 b1 b2 b3 are ahead -/
def atE (n b0 b1 b2 b3 : Nat) : Int × Int :=
  if b0 < 128 then (b0, 1)
  else if 192 ≤ b0 ∧ b0 ≤ 223 then (if n < 2 then (0, 0) else if 128 ≤ b1 ∧ b1 ≤ 191 then finE 2 128 (64 * ((b0 : Int) - 192) + b1 - 128) else (0, 0))
  else if 224 ≤ b0 ∧ b0 ≤ 239 then (if n < 3 then (0, 0) else if 128 ≤ b1 ∧ b1 ≤ 191 then (if 128 ≤ b2 ∧ b2 ≤ 191 then finE 3 2048 (64 * (64 * ((b0 : Int) - 224) + b1 - 128) + b2 - 128) else (0, 0)) else (0, 0))
  else if 240 ≤ b0 ∧ b0 ≤ 247 then (if n < 4 then (0, 0) else if 128 ≤ b1 ∧ b1 ≤ 191 then (if 128 ≤ b2 ∧ b2 ≤ 191 then (if 128 ≤ b3 ∧ b3 ≤ 191 then finE 4 65536 (64 * (64 * (64 * ((b0 : Int) - 240) + b1 - 128) + b2 - 128) + b3 - 128) else (0, 0)) else (0, 0)) else (0, 0))
  else (0, 0)

theorem ite_some {α : Type} (c : Prop) [Decidable c] (a b : α) : (if c then some a else some b) = some (if c then a else b) := by
  split <;> rfl

theorem at_f (k : Nat) (s : ByteArray) (i : Nat) (hs : s.size ≤ 1000000000) (hi : i < s.size) (b0 b1 b2 b3 : Nat) (h0 : bt s (i : Int) = b0) (h1 : i + 1 < s.size → bt s ((i + 1 : Nat) : Int) = b1) (h2 : i + 2 < s.size → bt s ((i + 2 : Nat) : Int) = b2)
    (h3 : i + 3 < s.size → bt s ((i + 3 : Nat) : Int) = b3) (q0 : b0 ≤ 255) (q1 : b1 ≤ 255) (q2 : b2 ≤ 255) (q3 : b3 ≤ 255) : intarsiaref01_at.f (k + 8) s i = some (atE (s.size - i) b0 b1 b2 b3) := by
  unfold intarsiaref01_at.f atE
  rw [if_neg (by omega), if_pos (by omega), if_pos (by omega), h0, w32 (x := (b0 : Int)) (by omega) (by omega)]
  by_cases c0 : b0 < 128
  · rw [if_pos (by omega), if_pos c0]
  · rw [if_neg (by omega), if_neg c0, within_eq, within_eq, within_eq]
    simp only [Option.bind_some, decide_eq_true_eq]
    by_cases c1 : 192 ≤ b0 ∧ b0 ≤ 223
    · rw [if_pos (show (192 : Int) ≤ b0 ∧ (b0 : Int) ≤ 223 by omega), if_pos c1, w32 (by omega) (by omega)]
      refine (at_begin (k + 6) s i 2 128 _ hs (by omega) (by decide)).trans ?_
      by_cases d : s.size - i < 2
      · rw [if_pos (by omega), if_pos d]
      · rw [if_neg (by omega), if_neg d, at_more (k + 5) s i 1 _ _ _ hs (by decide) (by omega) (by omega) (by omega) b1 (h1 (by omega)) q1]
        by_cases e : 128 ≤ b1 ∧ b1 ≤ 191
        · rw [if_pos e, if_pos e]
          exact at_end (k + 4) _ _ _ _ _
        · rw [if_neg e, if_neg e]
    · rw [if_neg (show ¬ ((192 : Int) ≤ b0 ∧ (b0 : Int) ≤ 223) by omega), if_neg c1]
      by_cases c2 : 224 ≤ b0 ∧ b0 ≤ 239
      · rw [if_pos (show (224 : Int) ≤ b0 ∧ (b0 : Int) ≤ 239 by omega), if_pos c2, w32 (by omega) (by omega)]
        refine (at_begin (k + 6) s i 3 2048 _ hs (by omega) (by decide)).trans ?_
        by_cases d : s.size - i < 3
        · rw [if_pos (by omega), if_pos d]
        · rw [if_neg (by omega), if_neg d, at_more (k + 5) s i 1 _ _ _ hs (by decide) (by omega) (by omega) (by omega) b1 (h1 (by omega)) q1]
          by_cases e : 128 ≤ b1 ∧ b1 ≤ 191
          · rw [if_pos e, if_pos e, at_more (k + 4) s i 2 _ _ _ hs (by decide) (by omega) (by omega) (by omega) b2 (h2 (by omega)) q2]
            by_cases e2 : 128 ≤ b2 ∧ b2 ≤ 191
            · rw [if_pos e2, if_pos e2]
              exact at_end (k + 3) _ _ _ _ _
            · rw [if_neg e2, if_neg e2]
          · rw [if_neg e, if_neg e]
      · rw [if_neg (show ¬ ((224 : Int) ≤ b0 ∧ (b0 : Int) ≤ 239) by omega), if_neg c2]
        by_cases c3 : 240 ≤ b0 ∧ b0 ≤ 247
        · rw [if_pos (show (240 : Int) ≤ b0 ∧ (b0 : Int) ≤ 247 by omega), if_pos c3, w32 (by omega) (by omega)]
          refine (at_begin (k + 6) s i 4 65536 _ hs (by omega) (by decide)).trans ?_
          by_cases d : s.size - i < 4
          · rw [if_pos (by omega), if_pos d]
          · rw [if_neg (by omega), if_neg d, at_more (k + 5) s i 1 _ _ _ hs (by decide) (by omega) (by omega) (by omega) b1 (h1 (by omega)) q1]
            by_cases e : 128 ≤ b1 ∧ b1 ≤ 191
            · rw [if_pos e, if_pos e, at_more (k + 4) s i 2 _ _ _ hs (by decide) (by omega) (by omega) (by omega) b2 (h2 (by omega)) q2]
              by_cases e2 : 128 ≤ b2 ∧ b2 ≤ 191
              · rw [if_pos e2, if_pos e2, at_more (k + 3) s i 3 _ _ _ hs (by decide) (by omega) (by omega) (by omega) b3 (h3 (by omega)) q3]
                by_cases e3 : 128 ≤ b3 ∧ b3 ≤ 191
                · rw [if_pos e3, if_pos e3]
                  exact at_end (k + 2) _ _ _ _ _
                · rw [if_neg e3, if_neg e3]
              · rw [if_neg e2, if_neg e2]
            · rw [if_neg e, if_neg e]
        · rw [if_neg (show ¬ ((240 : Int) ≤ b0 ∧ (b0 : Int) ≤ 247) by omega), if_neg c3]
          exact (at_begin (k + 6) s i 0 0 0 hs (by omega) (by decide)).trans (by rw [if_pos (Or.inl rfl)])

end Go.Proofs.YtfpjdgobannneaaGreatDoor

/-
  The document's small functions over texts are the model's decoding: plain laws.
-/
namespace Go.Proofs.YtfpjdgobannneaaGreatDoor
open Go Go.RowKit Go.Lib Go.Proofs.YtfpjdgobannneaaGreatDoor.Ref Go.Proofs.YtfpjdgobannneaaGreatDoorW.PrintWords

def asAt (d : Nat × Nat) : Int × Int := if d = (65533, 1) then (0, 0) else (d.1, d.2)

theorem asAt_bad : asAt (65533, 1) = (0, 0) := by unfold asAt; rw [if_pos rfl]

theorem asAt_ok {v m : Nat} (h : m ≠ 1 ∨ v < 128) : asAt (v, m) = ((v : Int), (m : Int)) := by
  unfold asAt
  rw [if_neg (by intro e; injection e with e1 e2; omega)]

theorem finE_ok {m least v : Int} (h : ¬ (v < least ∨ v > 1114111 ∨ (55296 ≤ v ∧ v ≤ 57343))) : finE m least v = (v, m) := by unfold finE; rw [if_neg h]

theorem finE_bad {m least v : Int} (h : v < least ∨ v > 1114111 ∨ (55296 ≤ v ∧ v ≤ 57343)) : finE m least v = (0, 0) := by unfold finE; rw [if_pos h]

set_option maxHeartbeats 1000000 in
theorem atE_dec (n b0 b1 b2 b3 : Nat) (q0 : b0 ≤ 255) (q1 : b1 ≤ 255) (q2 : b2 ≤ 255) (q3 : b3 ≤ 255) : atE n b0 b1 b2 b3 = asAt (decodeN n b0 b1 b2 b3) := by
  by_cases c0 : b0 < 128
  · have e : decodeN n b0 b1 b2 b3 = (b0, 1) := by unfold decodeN; rw [if_pos c0]
    rw [e, asAt_ok (Or.inr c0)]
    unfold atE
    rw [if_pos c0]
    rfl
  · by_cases c1 : 192 ≤ b0 ∧ b0 ≤ 223
    · by_cases d : 1 < n ∧ b1 / 64 = 2
      · by_cases f : b0 % 32 * 64 + b1 % 64 ≥ 128
        · have e : decodeN n b0 b1 b2 b3 = (b0 % 32 * 64 + b1 % 64, 2) := by unfold decodeN; rw [if_neg c0, if_pos ⟨by omega, d⟩, if_pos f]
          rw [e, asAt_ok (Or.inl (by decide))]
          unfold atE
          rw [if_neg c0, if_pos c1, if_neg (by omega), if_pos (by omega), finE_ok (by omega)]
          exact Prod.ext (by simp only; omega) rfl
        · have e : decodeN n b0 b1 b2 b3 = (65533, 1) := by unfold decodeN; rw [if_neg c0, if_pos ⟨by omega, d⟩, if_neg f]
          rw [e, asAt_bad]
          unfold atE
          rw [if_neg c0, if_pos c1, if_neg (by omega), if_pos (by omega), finE_bad (by omega)]
      · have e : decodeN n b0 b1 b2 b3 = (65533, 1) := by unfold decodeN; rw [if_neg c0, if_neg (by omega), if_neg (by omega), if_neg (by omega)]
        rw [e, asAt_bad]
        unfold atE
        rw [if_neg c0, if_pos c1]
        repeat' split
        all_goals first
          | rfl
          | (exfalso; omega)
    · by_cases c2 : 224 ≤ b0 ∧ b0 ≤ 239
      · by_cases d : (1 < n ∧ b1 / 64 = 2) ∧ (2 < n ∧ b2 / 64 = 2)
        · by_cases f : b0 % 16 * 4096 + b1 % 64 * 64 + b2 % 64 ≥ 2048 ∧ (b0 % 16 * 4096 + b1 % 64 * 64 + b2 % 64 < 55296 ∨ (57344 ≤ b0 % 16 * 4096 + b1 % 64 * 64 + b2 % 64 ∧ b0 % 16 * 4096 + b1 % 64 * 64 + b2 % 64 ≤ 1114111))
          · have e : decodeN n b0 b1 b2 b3 = (b0 % 16 * 4096 + b1 % 64 * 64 + b2 % 64, 3) := by unfold decodeN; rw [if_neg c0, if_neg (by omega), if_pos ⟨by omega, d⟩, if_pos f]
            rw [e, asAt_ok (Or.inl (by decide))]
            unfold atE
            rw [if_neg c0, if_neg c1, if_pos c2, if_neg (by omega), if_pos (by omega), if_pos (by omega), finE_ok (by omega)]
            exact Prod.ext (by simp only; omega) rfl
          · have e : decodeN n b0 b1 b2 b3 = (65533, 1) := by unfold decodeN; rw [if_neg c0, if_neg (by omega), if_pos ⟨by omega, d⟩, if_neg f]
            rw [e, asAt_bad]
            unfold atE
            rw [if_neg c0, if_neg c1, if_pos c2, if_neg (by omega), if_pos (by omega), if_pos (by omega), finE_bad (by omega)]
        · have e : decodeN n b0 b1 b2 b3 = (65533, 1) := by unfold decodeN; rw [if_neg c0, if_neg (by omega), if_neg (by omega), if_neg (by omega)]
          rw [e, asAt_bad]
          unfold atE
          rw [if_neg c0, if_neg c1, if_pos c2]
          repeat' split
          all_goals first
            | rfl
            | (exfalso; omega)
      · by_cases c3 : 240 ≤ b0 ∧ b0 ≤ 247
        · by_cases d : (1 < n ∧ b1 / 64 = 2) ∧ (2 < n ∧ b2 / 64 = 2) ∧ (3 < n ∧ b3 / 64 = 2)
          · by_cases f : b0 % 8 * 262144 + b1 % 64 * 4096 + b2 % 64 * 64 + b3 % 64 ≥ 65536 ∧ (b0 % 8 * 262144 + b1 % 64 * 4096 + b2 % 64 * 64 + b3 % 64 < 55296 ∨ (57344 ≤ b0 % 8 * 262144 + b1 % 64 * 4096 + b2 % 64 * 64 + b3 % 64 ∧ b0 % 8 * 262144 + b1 % 64 * 4096 + b2 % 64 * 64 + b3 % 64 ≤ 1114111))
            · have e : decodeN n b0 b1 b2 b3 = (b0 % 8 * 262144 + b1 % 64 * 4096 + b2 % 64 * 64 + b3 % 64, 4) := by unfold decodeN; rw [if_neg c0, if_neg (by omega), if_neg (by omega), if_pos ⟨by omega, d⟩, if_pos f]
              rw [e, asAt_ok (Or.inl (by decide))]
              unfold atE
              rw [if_neg c0, if_neg c1, if_neg c2, if_pos c3, if_neg (by omega), if_pos (by omega), if_pos (by omega), if_pos (by omega), finE_ok (by omega)]
              exact Prod.ext (by simp only; omega) rfl
            · have e : decodeN n b0 b1 b2 b3 = (65533, 1) := by unfold decodeN; rw [if_neg c0, if_neg (by omega), if_neg (by omega), if_pos ⟨by omega, d⟩, if_neg f]
              rw [e, asAt_bad]
              unfold atE
              rw [if_neg c0, if_neg c1, if_neg c2, if_pos c3, if_neg (by omega), if_pos (by omega), if_pos (by omega), if_pos (by omega), finE_bad (by omega)]
          · have e : decodeN n b0 b1 b2 b3 = (65533, 1) := by unfold decodeN; rw [if_neg c0, if_neg (by omega), if_neg (by omega), if_neg (by omega)]
            rw [e, asAt_bad]
            unfold atE
            rw [if_neg c0, if_neg c1, if_neg c2, if_pos c3]
            repeat' split
            all_goals first
              | rfl
              | (exfalso; omega)
        · have e : decodeN n b0 b1 b2 b3 = (65533, 1) := by unfold decodeN; rw [if_neg c0, if_neg (by omega), if_neg (by omega), if_neg (by omega)]
          rw [e, asAt_bad]
          unfold atE
          rw [if_neg c0, if_neg c1, if_neg c2, if_neg c3]

theorem atU_asAt (b : UInt8) (r : List UInt8) : atU (b :: r) = asAt (decodeL (b :: r)) := by
  show (if badL (b :: r) = true then ((0 : Int), (0 : Int)) else (((decodeL (b :: r)).1 : Int), ((decodeL (b :: r)).2 : Int))) = asAt (decodeL (b :: r))
  unfold asAt
  by_cases h : badL (b :: r) = true
  · rw [if_pos h, if_pos ((badL_iff b r).1 h)]
  · rw [if_neg h, if_neg (fun e => h ((badL_iff b r).2 e))]

/-- the document's at is the model's decoding -/
theorem at_ev (s : ByteArray) (i : Nat) (hs : s.size ≤ 1000000000) (hi : i ≤ s.size) : Ev (fun k => intarsiaref01_at.f k s i) (atU (s.data.toList.drop i)) := by
  have hlen : (s.data.toList.drop i).length = s.size - i := by rw [List.length_drop, len_bytes]
  by_cases h : i < s.size
  · have e : s.data.toList.drop i = s.data.toList[i]'(by rw [len_bytes]; exact h) :: s.data.toList.drop (i + 1) := List.drop_eq_getElem_cons _
    have hg : ∀ j, j < 4 → i + j < s.size → bt s ((i + j : Nat) : Int) = (((s.data.toList.drop i).getD j 0).toNat : Nat) := fun j _ hj => bt_next s i j hj
    have hb : ∀ j, ((s.data.toList.drop i).getD j 0).toNat ≤ 255 := fun j => by
      have := ((s.data.toList.drop i).getD j 0).toNat_lt
      omega
    refine ⟨8, fun k hk => ?_⟩
    obtain ⟨m, rfl⟩ : ∃ m, k = m + 8 := ⟨k - 8, by omega⟩
    show intarsiaref01_at.f (m + 8) s i = _
    rw [at_f m s i hs h _ _ _ _ (hg 0 (by decide) (by omega)) (hg 1 (by decide)) (hg 2 (by decide)) (hg 3 (by decide)) (hb 0) (hb 1) (hb 2) (hb 3), atE_dec _ _ _ _ _ (hb 0) (hb 1) (hb 2) (hb 3)]
    generalize s.data.toList.drop i = l at *
    subst e
    rw [atU_asAt, decodeL_cons, ← hlen]
    rfl
  · have e : s.data.toList.drop i = [] := List.eq_nil_of_length_eq_zero (by omega)
    rw [e]
    refine Ev.of (fun k => ?_)
    show intarsiaref01_at.f k s i = some (0, 0)
    unfold intarsiaref01_at.f
    rw [if_pos (by omega)]

theorem refLetter_eq (c : Int) : intarsiaref01_Letter.f c = some (letterB c) := by
  unfold intarsiaref01_Letter.f letterB
  rw [within_eq, within_eq]
  simp only [Option.bind_some]
  by_cases a : 97 ≤ c ∧ c ≤ 122
  · rw [if_pos (by simpa using a)]
    simp [a.1, a.2]
  · rw [if_neg (by simpa using a)]
    by_cases b : 945 ≤ c ∧ c ≤ 969
    · rw [if_pos (by simpa using b)]
      simp [b.1, b.2]
    · rw [if_neg (by simpa using b)]
      have ha : (decide (97 ≤ c) && decide (c ≤ 122)) = false := by
        by_cases h : 97 ≤ c <;> simp [h] <;> omega
      have hb : (decide (945 ≤ c) && decide (c ≤ 969)) = false := by
        by_cases h : 945 ≤ c <;> simp [h] <;> omega
      rw [ha, hb]
      simp

theorem refdigit_eq (c : Int) : intarsiaref01_digit.f c = some (digitB c) := by
  unfold intarsiaref01_digit.f digitB
  rw [within_eq]
  simp

theorem refSign_eq (c : Int) : intarsiaref01_Sign.f c = some (signB c) := by
  unfold intarsiaref01_Sign.f signB
  repeat' split
  all_goals simp_all

theorem refblank_eq (c : Int) : intarsiaref01_blank.f c = some (c == 32 || c == 9) := by
  unfold intarsiaref01_blank.f
  split
  · simp_all
  · simp_all

end Go.Proofs.YtfpjdgobannneaaGreatDoor

/-
  The document's run, numbers, value: what they tell of a text; plain laws.
-/
namespace Go.Proofs.YtfpjdgobannneaaGreatDoor
open Go Go.RowKit Go.Lib Go.Proofs.YtfpjdgobannneaaGreatDoor.Ref Go.Proofs.YtfpjdgobannneaaGreatDoorW.PrintWords

theorem utf8_encode (r : Nat) (hv : r < 55296 ∨ (57344 ≤ r ∧ r ≤ 1114111)) : (Utf8.encode (r : Int)).data.toList = encodeRune (r : Int) := by
  have v : Utf8.valid (r : Int) = true := by simp [Utf8.valid]; omega
  unfold encodeRune
  by_cases c1 : r < 128
  · rw [encodeRuneZ_one (by omega) (by omega)]
    simp [Utf8.encode, v, c1]
  by_cases c2 : r < 2048
  · rw [encodeRuneZ_two (by omega) (by omega)]
    have e1 : ((192 : Int) + (r : Int) / 64).toNat = 192 + r / 64 := by omega
    have e2 : ((128 : Int) + (r : Int) % 64).toNat = 128 + r % 64 := by omega
    simp only [List.map_cons, List.map_nil, e1, e2]
    simp [Utf8.encode, v, c1, c2]
  by_cases c3 : r < 65536
  · rw [encodeRuneZ_three (by omega)]
    have e1 : ((224 : Int) + (r : Int) / 4096).toNat = 224 + r / 4096 := by omega
    have e2 : ((128 : Int) + (r : Int) / 64 % 64).toNat = 128 + r / 64 % 64 := by omega
    have e3 : ((128 : Int) + (r : Int) % 64).toNat = 128 + r % 64 := by omega
    simp only [List.map_cons, List.map_nil, e1, e2, e3]
    simp [Utf8.encode, v, c1, c2, c3]
  · rw [encodeRuneZ_four (by omega) (by omega)]
    have e1 : ((240 : Int) + (r : Int) / 262144).toNat = 240 + r / 262144 := by omega
    have e2 : ((128 : Int) + (r : Int) / 4096 % 64).toNat = 128 + r / 4096 % 64 := by omega
    have e3 : ((128 : Int) + (r : Int) / 64 % 64).toNat = 128 + r / 64 % 64 := by omega
    have e4 : ((128 : Int) + (r : Int) % 64).toNat = 128 + r % 64 := by omega
    simp only [List.map_cons, List.map_nil, e1, e2, e3, e4]
    simp [Utf8.encode, v, c1, c2, c3]

/-- a rune that is ahead -/
theorem atU_rune {l : List UInt8} {c m : Int} (h : atU l = (c, m)) (hm : m ≠ 0) : ∃ n : Nat, m = n ∧ 1 ≤ n ∧ n ≤ l.length ∧ runesU l = some c :: runesU (l.drop n) ∧ (Utf8.encode c).data.toList = l.take n ∧ (c < 128 → n = 1) ∧ 0 ≤ c := by
  cases l with
  | nil =>
    simp only [atU, Prod.mk.injEq] at h
    exact absurd h.2.symm hm
  | cons b r =>
    have h' : (if badL (b :: r) = true then ((0 : Int), (0 : Int)) else (((decodeL (b :: r)).1 : Int), ((decodeL (b :: r)).2 : Int))) = (c, m) := h
    by_cases hb : badL (b :: r) = true
    · rw [if_pos hb] at h'
      simp only [Prod.mk.injEq] at h'
      exact absurd h'.2.symm hm
    · rw [if_neg hb] at h'
      simp only [Prod.mk.injEq] at h'
      obtain ⟨rfl, rfl⟩ := h'
      have hb' : badL (b :: r) = false := by simpa using hb
      have hw := decodeL_width (b :: r)
      have hle : (decodeL (b :: r)).2 ≤ (b :: r).length := by
        rw [decodeL_cons]
        rcases decodeN_shape (r.length + 1) b.toNat (r.getD 0 0).toNat (r.getD 1 0).toNat (r.getD 2 0).toNat with ⟨q, e⟩ | ⟨q1, q2, q3, qv, e⟩ | ⟨q1, q2, q3, q4, qv, qs, e⟩ | ⟨q1, q2, q3, q4, q5, qv, qw, e⟩ | e
        all_goals
          rw [e]
          simp only [List.length_cons]
          omega
      have hval : (decodeL (b :: r)).1 < 55296 ∨ (57344 ≤ (decodeL (b :: r)).1 ∧ (decodeL (b :: r)).1 ≤ 1114111) := by
        rw [decodeL_cons]
        have hbt := b.toNat_lt
        have t0 := (r.getD 0 0).toNat_lt
        have t1 := (r.getD 1 0).toNat_lt
        have t2 := (r.getD 2 0).toNat_lt
        rcases decodeN_shape (r.length + 1) b.toNat (r.getD 0 0).toNat (r.getD 1 0).toNat (r.getD 2 0).toNat with ⟨q, e⟩ | ⟨q1, q2, q3, qv, e⟩ | ⟨q1, q2, q3, q4, qv, qs, e⟩ | ⟨q1, q2, q3, q4, q5, qv, qw, e⟩ | e
        all_goals
          rw [e]
          simp only
          omega
      have hone : (decodeL (b :: r)).1 < 128 → (decodeL (b :: r)).2 = 1 := by
        rw [decodeL_cons]
        rcases decodeN_shape (r.length + 1) b.toNat (r.getD 0 0).toNat (r.getD 1 0).toNat (r.getD 2 0).toNat with ⟨q, e⟩ | ⟨q1, q2, q3, qv, e⟩ | ⟨q1, q2, q3, q4, qv, qs, e⟩ | ⟨q1, q2, q3, q4, q5, qv, qw, e⟩ | e
        all_goals
          rw [e]
          intro hc
          first
            | rfl
            | (exfalso; simp only at hc; omega)
      refine ⟨_, rfl, by omega, hle, runesU_good hb', ?_, fun hc => hone (by omega), by omega⟩
      rw [utf8_encode _ hval]
      exact encode_decode _ (by simp) (fun e => hb ((badL_iff b r).2 (Prod.ext e.1 e.2)))

/-- no rune is ahead: the end, or a byte that begins none -/
theorem atU_none {l : List UInt8} {c : Int} (h : atU l = (c, 0)) : runesU l = [] ∧ l = [] ∨ runesU l = [none] := by
  cases l with
  | nil => exact Or.inl ⟨rfl, rfl⟩
  | cons b r =>
    have h' : (if badL (b :: r) = true then ((0 : Int), (0 : Int)) else (((decodeL (b :: r)).1 : Int), ((decodeL (b :: r)).2 : Int))) = (c, 0) := h
    by_cases hb : badL (b :: r) = true
    · exact Or.inr (runesU_bad hb)
    · rw [if_neg hb] at h'
      simp only [Prod.mk.injEq] at h'
      have hw := decodeL_width (b :: r)
      omega

/-- the runes ahead that are digits, or letters too -/
structure RunS (dig : Bool) (l : List UInt8) (ns : List Int) (p q : List UInt8) : Prop where
  split : l = p ++ q
  runes : runesU l = ns.map some ++ runesU q
  all : ∀ c ∈ ns, digitB c = true ∨ (dig = false ∧ letterB c = true)
  enc : (runesBytes ns).data.toList = p
  stop : ∀ c t, runesU q = some c :: t → digitB c = false ∧ (dig = false → letterB c = false)
  len : dig = true → p.length = ns.length

theorem RunS.nil {dig : Bool} {l : List UInt8} (h : ∀ c t, runesU l = some c :: t → digitB c = false ∧ (dig = false → letterB c = false)) : RunS dig l [] [] l :=
  ⟨rfl, rfl, fun c hc => (by cases hc), rfl, h, fun _ => rfl⟩

theorem RunS.cons {dig : Bool} {l : List UInt8} {c : Int} {n : Nat} {ns : List Int} {p q : List UInt8} (h : RunS dig (l.drop n) ns p q) (hr : runesU l = some c :: runesU (l.drop n)) (he : (Utf8.encode c).data.toList = l.take n)
    (hc : digitB c = true ∨ (dig = false ∧ letterB c = true)) (h1 : c < 128 → n = 1) (hl : n ≤ l.length) : RunS dig l (c :: ns) (l.take n ++ p) q := by
  refine ⟨?_, ?_, ?_, ?_, h.stop, ?_⟩
  · rw [List.append_assoc, ← h.split, List.take_append_drop]
  · rw [hr, h.runes]
    rfl
  · intro x hx
    rcases List.mem_cons.1 hx with rfl | hx
    · exact hc
    · exact h.all x hx
  · rw [runesBytes_cons, he, h.enc]
  · intro hd
    have hcd : digitB c = true := by
      rcases hc with q | ⟨q, _⟩
      · exact q
      · rw [hd] at q; cases q
    have hc1 : c < 128 := by
      unfold digitB at hcd
      simp only [Bool.and_eq_true, decide_eq_true_eq] at hcd
      omega
    rw [List.length_append, List.length_take, h.len hd, List.length_cons, h1 hc1]
    have := h1 hc1
    omega

/-- what a run tells from a place on -/
def RunSays (s : ByteArray) (dig : Bool) (fr i cnt : Nat) : Prop := ∃ ns p q, RunS dig (s.data.toList.drop i) ns p q ∧
    Ev (fun k => intarsiaref01_run.l0 k s fr dig i cnt) ((((i + p.length - fr : Nat) : Int)), ((cnt + ns.length : Nat) : Int))

theorem run_step (s : ByteArray) (dig : Bool) (hs : s.size ≤ 1000000000) (fr i cnt : Nat) (hi : i ≤ s.size) (hf : fr ≤ i) (hcnt : cnt ≤ i) (ih : ∀ n, 1 ≤ n → i + n ≤ s.size → RunSays s dig fr (i + n) (cnt + 1)) : RunSays s dig fr i cnt := by
  have stopAt : ∀ (h : ∀ c t, runesU (s.data.toList.drop i) = some c :: t → digitB c = false ∧ (dig = false → letterB c = false)) (e : Ev (fun k => intarsiaref01_run.l0 k s fr dig i cnt) (wrap64 ((i : Int) - fr), (cnt : Int))),
      RunSays s dig fr i cnt := fun h e => by
    refine ⟨[], [], _, RunS.nil h, ?_⟩
    rw [w64 (by omega) (by omega)] at e
    have e1 : ((i : Int) - fr) = ((i + ([] : List UInt8).length - fr : Nat) : Int) := by simp only [List.length_nil]; omega
    rw [← e1]
    exact e
  by_cases hlt : i < s.size
  · have hat := at_ev s i hs hi
    generalize hce : atU (s.data.toList.drop i) = cm at hat
    obtain ⟨c, mm⟩ := cm
    by_cases hmm : mm = 0
    · subst hmm
      refine stopAt ?_ ?_
      · intro c' t ht
        rcases atU_none hce with ⟨h1, _⟩ | h1
        · rw [h1] at ht; cases ht
        · rw [h1] at ht; cases ht
      · refine Ev.step (Ev.bind hat (Ev.of (fun k => ?_))) (fun k => by rw [intarsiaref01_run.l0, if_pos (by omega)])
        exact if_pos rfl
    · obtain ⟨n, rfl, hn1, hnl, hr, he, h1, h0⟩ := atU_rune hce hmm
      have hnl' : i + n ≤ s.size := by rw [List.length_drop, len_bytes] at hnl; omega
      have hd : (s.data.toList.drop i).drop n = s.data.toList.drop (i + n) := List.drop_drop
      have wi : wrap64 ((i : Int) + n) = ((i + n : Nat) : Int) := by rw [w64 (by omega) (by omega)]; omega
      have wc : wrap64 ((cnt : Int) + 1) = ((cnt + 1 : Nat) : Int) := by rw [w64 (by omega) (by omega)]; omega
      have e2 : ∀ p : List UInt8, (i + ((s.data.toList.drop i).take n ++ p).length - fr : Nat) = i + n + p.length - fr := fun p => by
        rw [List.length_append, List.length_take]
        omega
      have e3 : ∀ ns : List Int, cnt + (c :: ns).length = cnt + 1 + ns.length := fun ns => by rw [List.length_cons]; omega
      by_cases hdg : digitB c = true
      · obtain ⟨ns, p, q, hR, hE⟩ := ih n hn1 hnl'
        refine ⟨c :: ns, (s.data.toList.drop i).take n ++ p, q, RunS.cons (by rw [hd]; exact hR) hr he (Or.inl hdg) h1 hnl, ?_⟩
        rw [e2, e3]
        refine Ev.step (Ev.bind hat (Ev.congr hE (fun k => ?_))) (fun k => by rw [intarsiaref01_run.l0, if_pos (by omega)])
        show (if (n : Int) = 0 then _ else _) = _
        rw [if_neg (by omega), refdigit_eq, hdg, Option.bind_some, if_pos rfl, wi, wc]
      · have hdf : digitB c = false := by simpa using hdg
        cases dig with
        | true =>
          refine stopAt ?_ ?_
          · intro c' t ht
            rw [hr] at ht
            injection ht with a1 a2
            injection a1 with a1
            subst a1
            exact ⟨hdf, fun h => by cases h⟩
          · refine Ev.step (Ev.bind hat (Ev.of (fun k => ?_))) (fun k => by rw [intarsiaref01_run.l0, if_pos (by omega)])
            show (if (n : Int) = 0 then _ else _) = _
            rw [if_neg (by omega), refdigit_eq, hdf, Option.bind_some, if_neg (by decide), if_pos rfl]
        | false =>
          by_cases hlt2 : letterB c = true
          · obtain ⟨ns, p, q, hR, hE⟩ := ih n hn1 hnl'
            refine ⟨c :: ns, (s.data.toList.drop i).take n ++ p, q, RunS.cons (by rw [hd]; exact hR) hr he (Or.inr ⟨rfl, hlt2⟩) h1 hnl, ?_⟩
            rw [e2, e3]
            refine Ev.step (Ev.bind hat (Ev.congr hE (fun k => ?_))) (fun k => by rw [intarsiaref01_run.l0, if_pos (by omega)])
            show (if (n : Int) = 0 then _ else _) = _
            rw [if_neg (by omega), refdigit_eq, hdf, Option.bind_some, if_neg (by decide), if_neg (by decide), refLetter_eq, hlt2, Option.bind_some, if_pos rfl, wi, wc]
          · have hlf : letterB c = false := by simpa using hlt2
            refine stopAt ?_ ?_
            · intro c' t ht
              rw [hr] at ht
              injection ht with a1 a2
              injection a1 with a1
              subst a1
              exact ⟨hdf, fun _ => hlf⟩
            · refine Ev.step (Ev.bind hat (Ev.of (fun k => ?_))) (fun k => by rw [intarsiaref01_run.l0, if_pos (by omega)])
              show (if (n : Int) = 0 then _ else _) = _
              rw [if_neg (by omega), refdigit_eq, hdf, Option.bind_some, if_neg (by decide), if_neg (by decide), refLetter_eq, hlf, Option.bind_some, if_neg (by decide)]
  · refine stopAt ?_ ?_
    · intro c t ht
      have e : s.data.toList.drop i = [] := List.eq_nil_of_length_eq_zero (by rw [List.length_drop, len_bytes]; omega)
      rw [e] at ht
      cases ht
    · exact Ev.step (Ev.const _) (fun k => by rw [intarsiaref01_run.l0, if_neg (by omega)])

theorem run_ev (s : ByteArray) (dig : Bool) (hs : s.size ≤ 1000000000) (fr : Nat) (m : Nat) : ∀ (i cnt : Nat), s.size - i ≤ m → i ≤ s.size → fr ≤ i → cnt ≤ i → RunSays s dig fr i cnt := by
  induction m with
  | zero => exact fun i cnt hm hi hf hc => run_step s dig hs fr i cnt hi hf hc (fun n h1 h2 => absurd h2 (by omega))
  | succ m ih => exact fun i cnt hm hi hf hc => run_step s dig hs fr i cnt hi hf hc (fun n h1 h2 => ih (i + n) (cnt + 1) (by omega) h2 (by omega) (by omega))

/-- what a run tells -/
theorem run_says (s : ByteArray) (dig : Bool) (hs : s.size ≤ 1000000000) (i : Nat) (hi : i ≤ s.size) : ∃ ns p q, RunS dig (s.data.toList.drop i) ns p q ∧ Ev (fun k => intarsiaref01_run.f k s i dig) ((p.length : Int), (ns.length : Int)) := by
  obtain ⟨ns, p, q, h, e⟩ := run_ev s dig hs i (s.size - i) i 0 (Nat.le_refl _) hi (Nat.le_refl _) (Nat.zero_le _)
  refine ⟨ns, p, q, h, ?_⟩
  have e1 : i + p.length - i = p.length := by omega
  have e2 : 0 + ns.length = ns.length := by omega
  rw [e1, e2] at e
  exact e

end Go.Proofs.YtfpjdgobannneaaGreatDoor

/-
  The document's numbers and value: what they tell of a text; plain laws.
-/
namespace Go.Proofs.YtfpjdgobannneaaGreatDoor
open Go Go.RowKit Go.Lib Go.Proofs.YtfpjdgobannneaaGreatDoor.Ref Go.Proofs.YtfpjdgobannneaaGreatDoorW.PrintWords

theorem digitB_range {c : Int} (h : digitB c = true) : 48 ≤ c ∧ c ≤ 57 := by
  unfold digitB at h
  simp only [Bool.and_eq_true, decide_eq_true_eq] at h
  exact h

theorem digits_bytes : ∀ (ns : List Int), (∀ c ∈ ns, digitB c = true) → (runesBytes ns).data.toList = ns.map (fun d => UInt8.ofNat d.toNat)
  | [], _ => rfl
  | c :: t, h => by
    obtain ⟨a, b⟩ := digitB_range (h c (by simp))
    obtain ⟨n, rfl⟩ : ∃ n : Nat, c = n := ⟨c.toNat, by omega⟩
    rw [runesBytes_cons, digits_bytes t (fun x hx => h x (by simp [hx])), utf8_encode n (by omega), List.map_cons]
    unfold encodeRune
    rw [encodeRuneZ_one (by omega) (by omega)]
    simp

theorem RunS.digits {l : List UInt8} {ns : List Int} {p q : List UInt8} (h : RunS true l ns p q) : (∀ c ∈ ns, digitB c = true) ∧ ∀ b ∈ p, 48 ≤ b.toNat ∧ b.toNat ≤ 57 := by
  have h1 : ∀ c ∈ ns, digitB c = true := fun c hc => by
    rcases h.all c hc with q | ⟨q, _⟩
    · exact q
    · cases q
  refine ⟨h1, fun b hb => ?_⟩
  rw [← h.enc, digits_bytes ns h1] at hb
  obtain ⟨d, hd, rfl⟩ := List.mem_map.1 hb
  obtain ⟨a, c⟩ := digitB_range (h1 d hd)
  simp only [UInt8.toNat_ofNat']
  omega

/-- a number's runes -/
def NumRunes (ns : List Int) : Prop := (∃ d ds, ns = d :: ds ∧ ∀ x ∈ d :: ds, digitB x = true) ∨ (∃ d ds, ns = 45 :: d :: ds ∧ ∀ x ∈ d :: ds, digitB x = true)

theorem minus_ahead {s : ByteArray} {i : Nat} (hi : i < s.size) (h : bt s (i : Int) = 45) : s.data.toList.drop i = 45 :: s.data.toList.drop (i + 1) := by
  have e : s.data.toList.drop i = s.data.toList[i]'(by rw [len_bytes]; exact hi) :: s.data.toList.drop (i + 1) := List.drop_eq_getElem_cons _
  rw [bt_list s i hi, e] at h
  simp only [List.getD_cons_zero] at h
  rw [e]
  congr 1
  exact byte_eq (n := 45) (by omega)

theorem not_minus {s : ByteArray} {i : Nat} (hi : i < s.size) (h : bt s (i : Int) ≠ 45) : ∀ L, runesU (s.data.toList.drop i) ≠ some 45 :: L := by
  intro L hL
  have e : s.data.toList.drop i = s.data.toList[i]'(by rw [len_bytes]; exact hi) :: s.data.toList.drop (i + 1) := List.drop_eq_getElem_cons _
  rw [bt_list s i hi, e] at h
  simp only [List.getD_cons_zero] at h
  rw [e] at hL
  generalize s.data.toList[i]'(by rw [len_bytes]; exact hi) = b at *
  by_cases hb : badL (b :: s.data.toList.drop (i + 1)) = true
  · rw [runesU_bad hb] at hL
    cases hL
  · have hb' : badL (b :: s.data.toList.drop (i + 1)) = false := by simpa using hb
    by_cases h1 : b.toNat < 128
    · rw [runesU_ascii _ h1] at hL
      injection hL with q
      injection q with q
      exact h q
    · obtain ⟨_, _, _, _, _, q, _⟩ := decode_wide b _ h1 hb'
      rw [runesU_good hb'] at hL
      injection hL with q2
      injection q2 with q2
      omega

theorem numbers_says (s : ByteArray) (hs : s.size ≤ 1000000000) (i : Nat) (hi : i < s.size) : ∃ t : Nat, Ev (fun k => intarsiaref01_numbers.f k s i) (t : Int) ∧ i + t ≤ s.size ∧
    ((t = 0 ∧ ∀ x L, runesU (s.data.toList.drop i) = some x :: L → digitB x = false ∧ (x = 45 → ∀ y M, L = some y :: M → digitB y = false)) ∨
     (0 < t ∧ ∃ ns, runesU (s.data.toList.drop i) = ns.map some ++ runesU (s.data.toList.drop (i + t)) ∧ ns.length = t ∧ NumRunes ns ∧ (runesBytes ns).data.toList = (s.data.toList.drop i).take t ∧
       (∃ sg p, (s.data.toList.drop i).take t = sg ++ p ∧ (sg = [] ∨ sg = [45]) ∧ p ≠ [] ∧ (∀ b ∈ p, 48 ≤ b.toNat ∧ b.toNat ≤ 57)) ∧ ∀ x L, runesU (s.data.toList.drop (i + t)) = some x :: L → digitB x = false)) := by
  by_cases hb : bt s (i : Int) = 45
  · have e0 := minus_ahead hi hb
    obtain ⟨ds, p, q, hR, hE⟩ := run_says s true hs (i + 1) (by omega)
    obtain ⟨hd, hp⟩ := hR.digits
    have hlen := hR.len rfl
    have hsp := hR.split
    have hsz : p.length ≤ s.size - (i + 1) := by
      have := congrArg List.length hsp
      rw [List.length_drop, len_bytes, List.length_append] at this
      omega
    have wi : wrap64 ((i : Int) + 1) = ((i + 1 : Nat) : Int) := by rw [w64 (by omega) (by omega)]; omega
    have hstep : ∀ r : Int, (if (p.length : Int) = 0 then some (0 : Int) else some (wrap64 (wrap64 (wrap64 ((i : Int) + 1) - i) + (p.length : Int)))) = some r → Ev (fun k => intarsiaref01_numbers.f k s i) r := fun r hr => by
      refine Ev.congr (g := fun k => (intarsiaref01_run.f k s ((i + 1 : Nat) : Int) true).bind fun bt155 => if bt155.1 = 0 then some (0 : Int) else some (wrap64 (wrap64 (wrap64 ((i : Int) + 1) - i) + bt155.1))) (Ev.bind hE (Ev.of (fun k => hr))) (fun k => ?_)
      unfold intarsiaref01_numbers.f
      rw [if_pos (by omega), if_pos (by omega), if_pos hb, wi]
    have hru : runesU (s.data.toList.drop i) = some 45 :: runesU (s.data.toList.drop (i + 1)) := by
      rw [e0, runesU_ascii _ (by decide)]
      rfl
    by_cases h0 : p.length = 0
    · refine ⟨0, hstep 0 (by rw [if_pos (by omega)]), by omega, Or.inl ⟨rfl, fun x L hL => ?_⟩⟩
      rw [hru] at hL
      injection hL with q1 q2
      injection q1 with q1
      subst q1
      refine ⟨by decide, fun _ y M hM => ?_⟩
      subst q2
      have hp0 : p = [] := List.eq_nil_of_length_eq_zero h0
      rw [hp0, List.nil_append] at hsp
      rw [hsp] at hM
      exact (hR.stop y M hM).1
    · have e1 : wrap64 (wrap64 (wrap64 ((i : Int) + 1) - i) + (p.length : Int)) = ((p.length + 1 : Nat) : Int) := by
        rw [wi, w64 (x := ((i + 1 : Nat) : Int) - i) (by omega) (by omega), w64 (by omega) (by omega)]
        omega
      have e2 : (s.data.toList.drop i).take (p.length + 1) = 45 :: p := by
        rw [e0, List.take_succ_cons, hsp, List.take_left']
        rfl
      have e3 : s.data.toList.drop (i + (p.length + 1)) = q := by
        rw [show i + (p.length + 1) = i + 1 + p.length by omega, ← List.drop_drop, hsp, List.drop_left']
        rfl
      refine ⟨p.length + 1, hstep _ (by rw [if_neg (by omega), ← e1]), by omega, Or.inr ⟨by omega, 45 :: ds, ?_, ?_, ?_, ?_, ⟨[45], p, by rw [e2]; rfl, Or.inr rfl, fun h => h0 (by rw [h]; rfl), hp⟩, ?_⟩⟩
      · rw [hru, hR.runes, e3]
        rfl
      · rw [List.length_cons, hlen]
      · cases ds with
        | nil => exact absurd (by rw [hlen]; rfl) h0
        | cons d t => exact Or.inr ⟨d, t, rfl, hd⟩
      · rw [runesBytes_cons, hR.enc, e2]
        rfl
      · intro x L hL
        rw [e3] at hL
        exact (hR.stop x L hL).1
  · obtain ⟨ds, p, q, hR, hE⟩ := run_says s true hs i (by omega)
    obtain ⟨hd, hp⟩ := hR.digits
    have hlen := hR.len rfl
    have hsp := hR.split
    have hsz : p.length ≤ s.size - i := by
      have := congrArg List.length hsp
      rw [List.length_drop, len_bytes, List.length_append] at this
      omega
    have e1 : wrap64 (wrap64 ((i : Int) - i) + (p.length : Int)) = (p.length : Int) := by
      rw [w64 (x := (i : Int) - i) (by omega) (by omega), w64 (by omega) (by omega)]
      omega
    have hEv : Ev (fun k => intarsiaref01_numbers.f k s i) (p.length : Int) := by
      refine Ev.congr (g := fun k => (intarsiaref01_run.f k s i true).bind fun bt157 => if bt157.1 = 0 then some (0 : Int) else some (wrap64 (wrap64 ((i : Int) - i) + bt157.1))) (Ev.bind hE (Ev.of (fun k => ?_))) (fun k => ?_)
      · show (if (p.length : Int) = 0 then some (0 : Int) else some (wrap64 (wrap64 ((i : Int) - i) + (p.length : Int)))) = _
        rw [e1]
        by_cases h0 : (p.length : Int) = 0
        · rw [if_pos h0, h0]
        · rw [if_neg h0]
      · unfold intarsiaref01_numbers.f
        rw [if_pos (by omega), if_pos (by omega), if_neg hb]
    refine ⟨p.length, hEv, by omega, ?_⟩
    by_cases h0 : p.length = 0
    · have hp0 : p = [] := List.eq_nil_of_length_eq_zero h0
      rw [hp0, List.nil_append] at hsp
      refine Or.inl ⟨h0, fun x L hL => ⟨?_, fun h45 => ?_⟩⟩
      · rw [hsp] at hL
        exact (hR.stop x L hL).1
      · subst h45
        exact absurd hL (not_minus hi hb L)
    · have e2 : (s.data.toList.drop i).take p.length = p := by
        rw [hsp, List.take_left']
        rfl
      have e3 : s.data.toList.drop (i + p.length) = q := by
        rw [← List.drop_drop, hsp, List.drop_left']
        rfl
      refine Or.inr ⟨by omega, ds, ?_, hlen.symm, ?_, ?_, ⟨[], p, by rw [e2]; rfl, Or.inl rfl, fun h => h0 (by rw [h]; rfl), hp⟩, ?_⟩
      · rw [e3]
        exact hR.runes
      · cases ds with
        | nil => exact absurd (by rw [hlen]; rfl) h0
        | cons d t => exact Or.inl ⟨d, t, rfl, hd⟩
      · rw [hR.enc, e2]
      · intro x L hL
        rw [e3] at hL
        exact (hR.stop x L hL).1

/-- a row of digits as a number; none: too great -/
def valU (acc : Nat) : List UInt8 → Option Nat
  | [] => some acc
  | b :: r => if 1099511627776 < 10 * acc + (b.toNat - 48) then none else valU (10 * acc + (b.toNat - 48)) r

theorem big_parse : ∀ (l : List UInt8) (acc : Nat), (∀ b ∈ l, 48 ≤ b.toNat ∧ b.toNat ≤ 57) → 1099511627776 < acc → parseUint10 acc l = .range ∨ ∃ v, parseUint10 acc l = .ok v ∧ 1099511627776 < v
  | [], acc, _, ha => Or.inr ⟨acc, rfl, ha⟩
  | b :: r, acc, h, ha => by
    have hb := h b (by simp)
    rw [parseUint10, if_pos hb]
    by_cases h1 : 1844674407370955162 ≤ acc
    · rw [if_pos h1]; exact Or.inl rfl
    · rw [if_neg h1]
      by_cases h2 : 18446744073709551616 ≤ acc * 10 + (b.toNat - 48)
      · rw [if_pos h2]; exact Or.inl rfl
      · rw [if_neg h2]
        exact big_parse r _ (fun x hx => h x (by simp [hx])) (by omega)

theorem valU_parse : ∀ (l : List UInt8) (acc : Nat), (∀ b ∈ l, 48 ≤ b.toNat ∧ b.toNat ≤ 57) → acc ≤ 1099511627776 →
    (∀ v, valU acc l = some v → parseUint10 acc l = .ok v ∧ v ≤ 1099511627776) ∧ (valU acc l = none → parseUint10 acc l = .range ∨ ∃ v, parseUint10 acc l = .ok v ∧ 1099511627776 < v)
  | [], acc, _, ha => ⟨fun v hv => (by injection hv with hv; subst hv; exact ⟨rfl, ha⟩), fun h => (by cases h)⟩
  | b :: r, acc, h, ha => by
    have hb := h b (by simp)
    have ec : acc * 10 + (b.toNat - 48) = 10 * acc + (b.toNat - 48) := by omega
    rw [parseUint10, if_pos hb, if_neg (by omega), if_neg (by omega), valU, ec]
    by_cases h1 : 1099511627776 < 10 * acc + (b.toNat - 48)
    · rw [if_pos h1]
      exact ⟨fun v hv => (by cases hv), fun _ => big_parse r _ (fun x hx => h x (by simp [hx])) h1⟩
    · rw [if_neg h1]
      exact valU_parse r _ (fun x hx => h x (by simp [hx])) (by omega)

theorem val_ev (t : ByteArray) (ht : t.size ≤ 1000000000) (h0 : 0 < t.size) : ∀ (ds : List UInt8) (j acc : Nat), t.data.toList.drop j = ds → (∀ b ∈ ds, 48 ≤ b.toNat ∧ b.toNat ≤ 57) → acc ≤ 1099511627776 →
    Ev (fun k => intarsiaref01_value.l0 k t acc j) (match valU acc ds with | none => (0, false) | some v => (if bt t 0 = 45 then -(v : Int) else v, true))
  | [], j, acc, hd, _, ha => by
    have hj : t.size ≤ j := by
      have := congrArg List.length hd
      rw [List.length_drop, len_bytes, List.length_nil] at this
      omega
    refine Ev.step (Ev.const _) (fun k => ?_)
    rw [intarsiaref01_value.l0, if_neg (by omega), if_pos (by omega)]
    show _ = some (if bt t 0 = 45 then -(acc : Int) else acc, true)
    split
    · rw [w64 (by omega) (by omega)]
    · rfl
  | b :: r, j, acc, hd, hb, ha => by
    have hj : j < t.size := by
      have := congrArg List.length hd
      rw [List.length_drop, len_bytes, List.length_cons] at this
      omega
    have hbt : bt t (j : Int) = b.toNat := by rw [bt_list t j hj, hd]; rfl
    have hr : t.data.toList.drop (j + 1) = r := by
      have e : t.data.toList.drop j = t.data.toList[j]'(by rw [len_bytes]; exact hj) :: t.data.toList.drop (j + 1) := List.drop_eq_getElem_cons _
      rw [hd] at e
      injection e with _ e
      exact e.symm
    have hb1 := hb b (by simp)
    have em : ((b.toNat : Int) - 48) % 256 = ((b.toNat - 48 : Nat) : Int) := by omega
    have ew : wrap64 (wrap64 (10 * (acc : Int)) + ((b.toNat - 48 : Nat) : Int)) = ((10 * acc + (b.toNat - 48) : Nat) : Int) := by
      rw [w64 (x := 10 * (acc : Int)) (by omega) (by omega), w64 (by omega) (by omega)]
      omega
    have ej : wrap64 ((j : Int) + 1) = ((j + 1 : Nat) : Int) := by rw [w64 (by omega) (by omega)]; omega
    by_cases h1 : 1099511627776 < 10 * acc + (b.toNat - 48)
    · rw [valU, if_pos h1]
      refine Ev.step (Ev.const _) (fun k => ?_)
      rw [intarsiaref01_value.l0, if_pos (by omega), if_pos (by omega), hbt, if_neg (by omega), em, ew, if_pos (by omega)]
    · rw [valU, if_neg h1]
      refine Ev.step (val_ev t ht h0 r (j + 1) (10 * acc + (b.toNat - 48)) hr (fun x hx => hb x (by simp [hx])) (by omega)) (fun k => ?_)
      rw [intarsiaref01_value.l0, if_pos (by omega), if_pos (by omega), hbt, if_neg (by omega), em, ew, if_neg (by omega), ej]

theorem value_says (t : ByteArray) (ht : t.size ≤ 1000000000) {sg p : List UInt8} (hl : t.data.toList = sg ++ p) (hsg : sg = [] ∨ sg = [45]) (hp : p ≠ []) (hd : ∀ b ∈ p, 48 ≤ b.toNat ∧ b.toNat ≤ 57) :
    ∃ v ok, Ev (fun k => intarsiaref01_value.f k t) (v, ok) ∧ (ok = true → ¬ NumBad t ∧ v = (numOf t).1) ∧ (ok = false → NumBad t) := by
  have h0 : 0 < t.size := by
    rw [← len_bytes, hl, List.length_append]
    have := List.length_pos_iff.2 hp
    omega
  obtain ⟨v1, v2⟩ := valU_parse p 0 hd (by decide)
  have hmag : parseMag p = parseUint10 0 p := by unfold parseMag; rw [if_neg hp]
  rcases hsg with rfl | rfl
  · rw [List.nil_append] at hl
    obtain ⟨b, r, rfl⟩ := List.exists_cons_of_ne_nil hp
    have hb := hd b (by simp)
    have h45 : bt t 0 ≠ 45 := by
      have := bt_list t 0 h0
      rw [List.drop_zero, hl] at this
      have e : bt t 0 = (b.toNat : Int) := this
      omega
    have hE := val_ev t ht h0 (b :: r) 0 0 hl hd (by decide)
    have hat : atoiAll t.data.toList = match parseUint10 0 (b :: r) with | .range => .range | .ok u => (if 9223372036854775808 ≤ u then .range else .ok (u : Int)) | _ => atoiAll [] := by
      rw [hl]
      unfold atoiAll
      simp only
      rw [if_neg (by omega), hmag]
      have n45 : ¬ b.toNat = 45 := by omega
      cases parseUint10 0 (b :: r) <;> simp [n45]
    cases hv : valU 0 (b :: r) with
    | some v =>
      obtain ⟨e1, e2⟩ := v1 v hv
      rw [hv] at hE
      refine ⟨_, _, hE, fun _ => ?_, fun h => by cases h⟩
      have hn : numOf t = ((v : Int), false) := by
        unfold numOf
        rw [hat, e1]
        simp only
        rw [if_neg (by omega)]
      rw [if_neg h45]
      unfold NumBad
      rw [hn]
      refine ⟨?_, rfl⟩
      rintro (h | h | h)
      · cases h
      · simp only at h; omega
      · simp only at h; omega
    | none =>
      rw [hv] at hE
      refine ⟨_, _, hE, fun h => (by cases h), fun _ => ?_⟩
      unfold NumBad numOf
      rw [hat]
      rcases v2 hv with e | ⟨u, e, hu⟩
      · rw [e]; exact Or.inl rfl
      · rw [e]
        simp only
        by_cases hbig : 9223372036854775808 ≤ u
        · rw [if_pos hbig]; exact Or.inl rfl
        · rw [if_neg hbig]
          exact Or.inr (Or.inr (by simp only; omega))
  · have h45 : bt t 0 = 45 := by
      have := bt_list t 0 h0
      rw [List.drop_zero, hl] at this
      exact this
    have hdrop : t.data.toList.drop 1 = p := by rw [hl]; rfl
    have hE0 := val_ev t ht h0 p 1 0 hdrop hd (by decide)
    have hE : Ev (fun k => intarsiaref01_value.f k t) (match valU 0 p with | none => (0, false) | some v => (if bt t 0 = 45 then -(v : Int) else v, true)) := by
      refine Ev.step hE0 (fun k => ?_)
      show intarsiaref01_value.l0 (k + 1) t 0 0 = _
      rw [intarsiaref01_value.l0, if_pos (by omega), if_pos (by omega), if_pos h45, w64 (by omega) (by omega)]
      rfl
    have hat : atoiAll t.data.toList = match parseUint10 0 p with | .range => .range | .ok u => (if 9223372036854775808 < u then .range else .ok (-(u : Int))) | _ => atoiAll [] := by
      rw [hl]
      show atoiAll (45 :: p) = _
      unfold atoiAll
      simp only
      have q45 : UInt8.toNat 45 = 43 ∨ UInt8.toNat 45 = 45 := Or.inr rfl
      rw [if_pos q45, hmag]
      have n45 : (45 : UInt8).toNat = 45 := rfl
      cases parseUint10 0 p <;> simp [n45]
    cases hv : valU 0 p with
    | some v =>
      obtain ⟨e1, e2⟩ := v1 v hv
      rw [hv] at hE
      refine ⟨_, _, hE, fun _ => ?_, fun h => by cases h⟩
      have hn : numOf t = (-(v : Int), false) := by
        unfold numOf
        rw [hat, e1]
        simp only
        rw [if_neg (by omega)]
      rw [if_pos h45]
      unfold NumBad
      rw [hn]
      refine ⟨?_, rfl⟩
      rintro (h | h | h)
      · cases h
      · simp only at h; omega
      · simp only at h; omega
    | none =>
      rw [hv] at hE
      refine ⟨_, _, hE, fun h => (by cases h), fun _ => ?_⟩
      unfold NumBad numOf
      rw [hat]
      rcases v2 hv with e | ⟨u, e, hu⟩
      · rw [e]; exact Or.inl rfl
      · rw [e]
        simp only
        by_cases hbig : 9223372036854775808 < u
        · rw [if_pos hbig]; exact Or.inl rfl
        · rw [if_neg hbig]
          exact Or.inr (Or.inl (by simp only; omega))

end Go.Proofs.YtfpjdgobannneaaGreatDoor

/-
  The document's reader (intarsiaref01.Read) tells what word.Read tells: plain law.
-/
namespace Go.Proofs.YtfpjdgobannneaaGreatDoor
open Go Go.RowKit Go.Lib Go.Proofs.YtfpjdgobannneaaGreatDoor.Ref Go.Proofs.YtfpjdgobannneaaGreatDoorW.PrintWords

def toWd (x : S123) : Wd := ⟨x.f0, x.f1, x.f2, x.f3, x.f4⟩

/-- what the document's reader tells from a place on is what the reader tells -/
def ReadSays (s : ByteArray) (i : Nat) (ws : List S123) (l c : Int) (rem : Bool) (st : Rd) : Prop :=
  ∃ r : List S123 × Int × Int × Int, Ev (fun k => intarsiaref01_Read.l0 k s ws l c rem i) r ∧ (r.1.map toWd, r.2) = endR (runesU (s.data.toList.drop i)) st

theorem extract_bytes (s : ByteArray) (i n : Nat) : (s.extract i (i + n)).data.toList = (s.data.toList.drop i).take n := by
  rw [ByteArray.data_extract]
  simp only [Array.toList_extract, List.extract_eq_take_drop]
  congr 1
  omega

theorem bytes_ext {a b : ByteArray} (h : a.data.toList = b.data.toList) : a = b := by
  obtain ⟨a⟩ := a
  obtain ⟨b⟩ := b
  congr 1
  exact Array.toList_inj.1 h

/-- where the reader stands between words -/
structure Between (s : ByteArray) (i : Nat) (ws : List S123) (l c : Int) : Prop where
  fits : i ≤ s.size
  len : ws.length ≤ i
  l0 : 1 ≤ l
  l1 : l ≤ i + 1
  c0 : 1 ≤ c
  c1 : c ≤ i + 1

def Onward (s : ByteArray) (i : Nat) : Prop := ∀ i' ws l c st, i < i' → Between s i' ws l c → (Rem st (ws.map toWd) l c → ReadSays s i' ws l c true st) ∧ (Rest st (ws.map toWd) l c → ReadSays s i' ws l c false st)

theorem map_push (ws : List S123) (x : S123) : (ws ++ [x]).map toWd = ws.map toWd ++ [toWd x] := by simp

section
variable {s : ByteArray} {i : Nat} {ws : List S123} {l c : Int} {st : Rd}

/-- a name, a number, a sign, an odd rune -/
theorem word_says (hs : s.size ≤ 1000000000) (hB : Between s i ws l c) (ih : Onward s i) (hR : Rest st (ws.map toWd) l c) (hi : i < s.size) {a : Int} {n : Nat} (hn1 : 1 ≤ n) (hn2 : i + n ≤ s.size)
    (hr : runesU (s.data.toList.drop i) = some a :: runesU (s.data.toList.drop (i + n))) (he : (Utf8.encode a).data.toList = (s.data.toList.drop i).take n) (h10 : a ≠ 10) (h32 : a ≠ 32) (h9 : a ≠ 9) (h59 : a ≠ 59) :
    ∃ r : List S123 × Int × Int × Int, Ev (fun k => intarsiaref01_Read.j1 k s ws l c false i a n false) r ∧ (r.1.map toWd, r.2) = endR (runesU (s.data.toList.drop i)) st := by
  obtain ⟨_, b2, b3, b4, b5, b6⟩ := hB
  have H10 := Lib.hid h10
  have H32 := Lib.hid h32
  have H9 := Lib.hid h9
  have H59 := Lib.hid h59
  clear h10 h32 h9 h59
  have Hwin := Lib.hid (show wrap64 ((i : Int) + n) = ((i + n : Nat) : Int) from by rw [w64 (by omega) (by omega)]; omega)
  obtain ⟨t, hEt, ht1, hcase⟩ := numbers_says s hs i hi
  have Hwit := Lib.hid (show wrap64 ((i : Int) + t) = ((i + t : Nat) : Int) from by rw [w64 (by omega) (by omega)]; omega)
  have Hwct := Lib.hid (show wrap64 (c + t) = c + t from w64 (by omega) (by omega))
  rcases hcase with ⟨rfl, hno⟩ | ⟨htp, ns, hru, hlen, hform, henc, ⟨sg, p, hsp, hsg, hp, hpd⟩, hstop⟩
  · obtain ⟨hnd, hmin0⟩ := hno a _ hr
    have hmin := Lib.hid hmin0
    clear hmin0
    cases hla : letterB a with
    | true =>
      obtain ⟨ns, p, q, hN, hE⟩ := run_says s false hs i (by omega)
      obtain ⟨ns', rfl⟩ : ∃ ns', ns = a :: ns' := by
        have h := hN.runes
        rw [hr] at h
        cases ns with
        | nil =>
          have := (hN.stop a _ h.symm).2 rfl
          rw [hla] at this
          cases this
        | cons x t =>
          injection h with h1 h2
          injection h1 with h1
          exact ⟨t, by rw [h1]⟩
      have hpl : i + p.length ≤ s.size := by
        have := congrArg List.length hN.split
        rw [List.length_drop, len_bytes, List.length_append] at this
        omega
      have hpt : (s.data.toList.drop i).take p.length = p := by rw [hN.split, List.take_left']; rfl
      have hpq : s.data.toList.drop (i + p.length) = q := by rw [← List.drop_drop, hN.split, List.drop_left']; rfl
      have hM : ∀ x t, runesU q = some x :: t → letterB x = false ∧ digitB x = false := fun x t hx => ⟨(hN.stop x t hx).2 rfl, (hN.stop x t hx).1⟩
      have hall : ∀ x ∈ ns', letterB x = true ∨ digitB x = true := fun x hx => by
        rcases hN.all x (by simp [hx]) with h | ⟨_, h⟩
        · exact Or.inr h
        · exact Or.inl h
      have Hwip := Lib.hid (show wrap64 ((i : Int) + p.length) = ((i + p.length : Nat) : Int) from by rw [w64 (by omega) (by omega)]; omega)
      have htext : s.extract i (i + p.length) = runesBytes (a :: ns') := bytes_ext (by rw [extract_bytes, hpt, hN.enc])
      have hsz : (s.extract i (i + p.length)).size = p.length := by rw [← len_bytes, extract_bytes, hpt]
      have hnl : ns'.length + 1 ≤ p.length := by
        have h1 := congrArg List.length hN.enc
        have h2 : ∀ l : List Int, l.length ≤ (runesBytes l).data.toList.length := by
          intro l
          induction l with
          | nil => exact Nat.zero_le _
          | cons x t ih =>
            rw [runesBytes_cons, List.length_append, List.length_cons]
            have : 1 ≤ (Utf8.encode x).data.toList.length := by
              unfold Utf8.encode
              simp only
              repeat' split
              all_goals simp
            omega
        have h3 := h2 (a :: ns')
        rw [h1, List.length_cons] at h3
        exact h3
      have Hwcn := Lib.hid (show wrap64 (c + ((a :: ns').length : Int)) = c + ((ns'.length + 1 : Nat) : Int) from by rw [List.length_cons]; exact w64 (by omega) (by omega))
      obtain ⟨n1, n2⟩ := hR.name hla hall hM
      have N1 := Lib.hid n1
      have N2 := Lib.hid n2
      clear n1 n2
      have hruq : runesU (s.data.toList.drop i) = some a :: (ns'.map some ++ runesU q) := by rw [hN.runes]; rfl
      rw [hruq]
      by_cases h16 : 16 < ns'.length + 1
      · refine ⟨([], l, c, 3), ?_, by rw [N1.out h16]; rfl⟩
        refine Ev.step ?_ (fun k => by rw [intarsiaref01_Read.j1, if_neg (by decide), if_pos (by omega), Hwin.out, if_pos (by omega), if_pos (by omega)])
        refine Ev.bind hEt ?_
        refine Ev.congr ?_ (fun k => by show (if ((0 : Nat) : Int) > 0 then _ else _) = _; rw [if_neg (by omega), refLetter_eq, hla, Option.bind_some, if_pos rfl])
        refine Ev.bind hE ?_
        refine Ev.of (fun k => ?_)
        show (if ((a :: ns').length : Int) > 16 then _ else _) = _
        rw [if_pos (by rw [List.length_cons]; omega)]
      · obtain ⟨st', hR', e'⟩ := N2.out h16
        obtain ⟨r, hr1, hr2⟩ := (ih (i + p.length) (ws ++ [⟨1, s.extract i (i + p.length), 0, l, c⟩]) l (c + ((ns'.length + 1 : Nat) : Int)) st' (by omega) ⟨by omega, by simp; omega, b3, by omega, by omega, by omega⟩).2
          (by rw [map_push]; show Rest st' (ws.map toWd ++ [⟨1, s.extract i (i + p.length), 0, l, c⟩]) _ _; rw [htext]; exact hR')
        refine ⟨r, ?_, by rw [hr2, e', hpq]⟩
        refine Ev.step ?_ (fun k => by rw [intarsiaref01_Read.j1, if_neg (by decide), if_pos (by omega), Hwin.out, if_pos (by omega), if_pos (by omega)])
        refine Ev.bind hEt ?_
        refine Ev.congr ?_ (fun k => by show (if ((0 : Nat) : Int) > 0 then _ else _) = _; rw [if_neg (by omega), refLetter_eq, hla, Option.bind_some, if_pos rfl])
        refine Ev.bind hE ?_
        refine Ev.congr hr1 (fun k => ?_)
        show (if ((a :: ns').length : Int) > 16 then _ else _) = _
        rw [if_neg (by rw [List.length_cons]; omega)]
        simp only [Hwip.out, Hwcn.out, Int.toNat_natCast]
        rw [if_pos (by omega), if_pos (by omega), if_pos (by omega), hsz, Hwip.out]
    | false =>
      have pre : ∀ {g : Nat → Option (List S123 × Int × Int × Int)} {r : List S123 × Int × Int × Int}, Ev g r → (∀ k, (if signB a = true then
            (if ws.length < 2932031007402 then (intarsiaref01_Read.l0 k s (ws ++ [(⟨3, s.extract i (i + n), 0, l, c⟩ : S123)]) l (wrap64 (c + 1)) false (wrap64 (i + ((s.extract i (i + n)).size : Int)))) else none) else (some (([] : List S123), l, c, 6))) = g k) →
          Ev (fun k => intarsiaref01_Read.j1 k s ws l c false i a n false) r := fun {g r} hg hk => by
        refine Ev.step ?_ (fun k => by rw [intarsiaref01_Read.j1, if_neg (by decide), if_pos (by omega), Hwin.out, if_pos (by omega), if_pos (by omega)])
        refine Ev.bind hEt ?_
        refine Ev.congr hg (fun k => ?_)
        show (if ((0 : Nat) : Int) > 0 then _ else _) = _
        rw [if_neg (by omega), refLetter_eq, hla, Option.bind_some, if_neg (by decide), refSign_eq, Option.bind_some, ← hk k]
        simp only [Int.toNat_natCast]
      cases hsa : signB a with
      | true =>
        obtain ⟨st', hR', e'⟩ := hR.sign hsa (runesU (s.data.toList.drop (i + n)))
        have htext : s.extract i (i + n) = Utf8.encode a := bytes_ext (by rw [extract_bytes, he])
        have hsz : (s.extract i (i + n)).size = n := by
          rw [← len_bytes, extract_bytes, List.length_take, List.length_drop, len_bytes]
          omega
        obtain ⟨r, hr1, hr2⟩ := (ih (i + n) (ws ++ [⟨3, s.extract i (i + n), 0, l, c⟩]) l (c + 1) st' (by omega) ⟨by omega, by simp; omega, b3, by omega, by omega, by omega⟩).2
          (by rw [map_push]; show Rest st' (ws.map toWd ++ [⟨3, s.extract i (i + n), 0, l, c⟩]) _ _; rw [htext]; exact hR')
        refine ⟨r, pre hr1 (fun k => ?_), by rw [hr, hr2, e']⟩
        rw [if_pos hsa, if_pos (by omega), hsz, Hwin.out, w64 (x := c + 1) (by omega) (by omega)]
      | false =>
        refine ⟨([], l, c, 6), pre (Ev.const _) (fun k => by rw [if_neg (by rw [hsa]; decide)]), ?_⟩
        rw [hr]
        by_cases h45 : a = 45
        · subst h45
          rw [hR.minus (fun x t hx => hmin.out rfl x t hx)]
          rfl
        · rw [hR.odd hla hnd h45 H59.out H10.out hsa H32.out H9.out]
          rfl
  · have hT : (s.extract i (i + t)).data.toList = sg ++ p := by rw [extract_bytes, hsp]
    have hsz : (s.extract i (i + t)).size = t := by
      rw [← len_bytes, extract_bytes, List.length_take, List.length_drop, len_bytes]
      omega
    have htext : s.extract i (i + t) = runesBytes ns := bytes_ext (by rw [extract_bytes, henc])
    obtain ⟨v, ok, hEv, hok, hnok⟩ := value_says (s.extract i (i + t)) (by omega) hT hsg hp hpd
    obtain ⟨m1, m2, m3⟩ := hR.number hform hstop
    rw [← htext] at m1 m2 m3
    have Hok := Lib.hid hok
    have Hnok := Lib.hid hnok
    clear hok hnok
    have M1 := Lib.hid m1
    have M2 := Lib.hid m2
    have M3 := Lib.hid m3
    clear m1 m2 m3
    rw [hru]
    have pre : ∀ {g : Nat → Option (List S123 × Int × Int × Int)} {r : List S123 × Int × Int × Int}, Ev g r → (∀ k, (if ok = true then ((intarsiaref01_at.f k s ((i + t : Nat) : Int)).bind fun bt169 => (if bt169.2 > 0 then ((intarsiaref01_Letter.f bt169.1).bind fun t171 => (if t171 = true then (some (([] : List S123), l, c + t, 6)) else
          (if ws.length < 2932031007402 then (intarsiaref01_Read.l0 k s (ws ++ [(⟨2, s.extract i (i + t), v, l, c⟩ : S123)]) l (c + t) false ((i + t : Nat) : Int)) else none))) else
          (if ws.length < 2932031007402 then (intarsiaref01_Read.l0 k s (ws ++ [(⟨2, s.extract i (i + t), v, l, c⟩ : S123)]) l (c + t) false ((i + t : Nat) : Int)) else none))) else (some (([] : List S123), l, c, 3))) = g k) →
        Ev (fun k => intarsiaref01_Read.j1 k s ws l c false i a n false) r := fun {g r} hg hk => by
      refine Ev.step ?_ (fun k => by rw [intarsiaref01_Read.j1, if_neg (by decide), if_pos (by omega), Hwin.out, if_pos (by omega), if_pos (by omega)])
      refine Ev.bind hEt ?_
      refine Ev.congr ?_ (fun k => by show (if (t : Int) > 0 then _ else _) = _; rw [if_pos (by omega), Hwit.out, if_pos (by omega), if_pos (by omega)])
      refine Ev.bind hEv ?_
      refine Ev.congr hg (fun k => ?_)
      rw [← hk k]
      simp only [Hwct.out, Int.toNat_natCast, hsz, Hwit.out]
    cases ok with
    | false =>
      refine ⟨([], l, c, 3), pre (Ev.const _) (fun k => by rw [if_neg (by decide)]), ?_⟩
      rw [M1.out (Hnok.out rfl)]
      rfl
    | true =>
      obtain ⟨hgood, hv⟩ := Hok.out rfl
      have hat := at_ev s (i + t) hs (by omega)
      generalize hce : atU (s.data.toList.drop (i + t)) = cm at hat
      obtain ⟨c1, m⟩ := cm
      have push : (∀ x L, runesU (s.data.toList.drop (i + t)) = some x :: L → letterB x = false) →
          ∃ r : List S123 × Int × Int × Int, Ev (fun k => intarsiaref01_Read.l0 k s (ws ++ [(⟨2, s.extract i (i + t), v, l, c⟩ : S123)]) l (c + t) false ((i + t : Nat) : Int)) r ∧ (r.1.map toWd, r.2) = endR (ns.map some ++ runesU (s.data.toList.drop (i + t))) st := fun hnl => by
        obtain ⟨st', hR', e'⟩ := M3.out hgood hnl
        rw [hlen] at hR'
        obtain ⟨r, hr1, hr2⟩ := (ih (i + t) (ws ++ [⟨2, s.extract i (i + t), v, l, c⟩]) l (c + t) st' (by omega) ⟨by omega, by simp; omega, b3, by omega, by omega, by omega⟩).2
          (by rw [map_push]; show Rest st' (ws.map toWd ++ [⟨2, s.extract i (i + t), v, l, c⟩]) _ _; rw [hv]; exact hR')
        exact ⟨r, hr1, by rw [hr2, e']⟩
      by_cases hm : m = 0
      · subst hm
        obtain ⟨r, hr1, hr2⟩ := push (fun x L hx => by
          rcases atU_none hce with ⟨h1, _⟩ | h1
          · rw [h1] at hx; cases hx
          · rw [h1] at hx; cases hx)
        refine ⟨r, pre ?_ (fun k => by rw [if_pos rfl]), hr2⟩
        refine Ev.bind hat ?_
        refine Ev.congr hr1 (fun k => ?_)
        show (if (0 : Int) > 0 then _ else _) = _
        rw [if_neg (by decide), if_pos (by omega)]
      · obtain ⟨n', rfl, q1, q2, q3, q4, q5, q6⟩ := atU_rune hce hm
        cases hl1 : letterB c1 with
        | true =>
          refine ⟨([], l, c + t, 6), pre ?_ (fun k => by rw [if_pos rfl]), ?_⟩
          · refine Ev.bind hat ?_
            refine Ev.of (fun k => ?_)
            show (if (n' : Int) > 0 then _ else _) = _
            rw [if_pos (by omega), refLetter_eq, hl1, Option.bind_some, if_pos rfl]
          · rw [M2.out hgood c1 _ q3 hl1, hlen]
            rfl
        | false =>
          obtain ⟨r, hr1, hr2⟩ := push (fun x L hx => by
            rw [q3] at hx
            injection hx with h1 h2
            injection h1 with h1
            rw [← h1]
            exact hl1)
          refine ⟨r, pre ?_ (fun k => by rw [if_pos rfl]), hr2⟩
          refine Ev.bind hat ?_
          refine Ev.congr hr1 (fun k => ?_)
          show (if (n' : Int) > 0 then _ else _) = _
          rw [if_pos (by omega), refLetter_eq, hl1, Option.bind_some, if_neg (by decide), if_pos (by omega)]

end
end Go.Proofs.YtfpjdgobannneaaGreatDoor

/-
  The document's reader (intarsiaref01.Read) tells what word.Read tells: plain law, the end; and its contract.
-/
namespace Go.Proofs.YtfpjdgobannneaaGreatDoor
open Go Go.RowKit Go.Lib Go.Proofs.YtfpjdgobannneaaGreatDoor.Ref Go.Proofs.YtfpjdgobannneaaGreatDoorW.PrintWords

section
variable {s : ByteArray} {i : Nat} {ws : List S123} {l c : Int} {st : Rd}

theorem step_says (hs : s.size ≤ 1000000000) (hB : Between s i ws l c) (ih : Onward s i) (rem : Bool) (hst : (rem = true ∧ Rem st (ws.map toWd) l c) ∨ (rem = false ∧ Rest st (ws.map toWd) l c)) : ReadSays s i ws l c rem st := by
  have HB := Lib.hid hB
  obtain ⟨hi0, b2, b3, b4, b5, b6⟩ := hB
  by_cases hi : i < s.size
  · have hat := at_ev s i hs hi0
    generalize hce : atU (s.data.toList.drop i) = cm at hat
    obtain ⟨a, m⟩ := cm
    by_cases hm : m = 0
    · subst hm
      refine ⟨([], l, c, 6), ?_, ?_⟩
      · refine Ev.step ?_ (fun k => by rw [intarsiaref01_Read.l0, if_pos (by omega)])
        refine Ev.bind hat ?_
        refine Ev.of (fun k => ?_)
        exact if_pos rfl
      · have hne : runesU (s.data.toList.drop i) = [none] := by
          rcases atU_none hce with ⟨_, h2⟩ | h
          · have := congrArg List.length h2
            rw [List.length_drop, len_bytes, List.length_nil] at this
            omega
          · exact h
        rw [hne]
        rcases hst with ⟨_, h⟩ | ⟨_, h⟩
        · rw [h.bad]; rfl
        · rw [h.bad]; rfl
    · obtain ⟨n, rfl, q1, q2, q3, q4, q5, q6⟩ := atU_rune hce hm
      rw [List.drop_drop] at q3
      have hin : i + n ≤ s.size := by rw [List.length_drop, len_bytes] at q2; omega
      have Hwin := Lib.hid (show wrap64 ((i : Int) + n) = ((i + n : Nat) : Int) from by rw [w64 (by omega) (by omega)]; omega)
      have Hwc := Lib.hid (show wrap64 (c + 1) = c + 1 from w64 (by omega) (by omega))
      by_cases h10 : a = 10
      · subst h10
        obtain rfl := q5 (by decide)
        have Hwl := Lib.hid (show wrap64 (l + 1) = l + 1 from w64 (by omega) (by omega))
        obtain ⟨st', hR', e'⟩ : ∃ st', Rest st' (ws.map toWd ++ [⟨4, ⟨#[]⟩, 0, l, c⟩]) (l + 1) 1 ∧ endR (some 10 :: runesU (s.data.toList.drop (i + 1))) st = endR (runesU (s.data.toList.drop (i + 1))) st' := by
          rcases hst with ⟨_, h⟩ | ⟨_, h⟩
          · exact h.stop _
          · exact h.stop _
        obtain ⟨r, hr1, hr2⟩ := (ih (i + 1) (ws ++ [⟨4, ⟨#[]⟩, 0, l, c⟩]) (l + 1) 1 st' (by omega) ⟨hin, by simp; omega, by omega, by omega, by omega, by omega⟩).2 (by rw [map_push]; exact hR')
        refine ⟨r, ?_, by rw [q3, hr2, e']⟩
        refine Ev.step ?_ (fun k => by rw [intarsiaref01_Read.l0, if_pos (by omega)])
        refine Ev.bind hat ?_
        refine Ev.congr hr1 (fun k => ?_)
        show (if ((1 : Nat) : Int) = 0 then _ else if (10 : Int) = 10 then _ else _) = _
        rw [if_neg (by omega), if_pos rfl, if_pos (by omega), Hwl.out, show wrap64 ((i : Int) + 1) = ((i + 1 : Nat) : Int) from Hwin.out]
      · rcases hst with ⟨rfl, h⟩ | ⟨rfl, h⟩
        · obtain ⟨st', hR', e'⟩ := h.rune h10 (runesU (s.data.toList.drop (i + n)))
          obtain ⟨r, hr1, hr2⟩ := (ih (i + n) ws l (c + 1) st' (by omega) ⟨hin, by omega, b3, by omega, by omega, by omega⟩).1 hR'
          refine ⟨r, ?_, by rw [q3, hr2, e']⟩
          refine Ev.step ?_ (fun k => by rw [intarsiaref01_Read.l0, if_pos (by omega)])
          refine Ev.bind hat ?_
          refine Ev.congr (g := fun k => intarsiaref01_Read.j1 k s ws l c true i a n true) ?_ (fun k => ?_)
          · refine Ev.step hr1 (fun k => ?_)
            rw [intarsiaref01_Read.j1, if_pos rfl, if_pos rfl, Hwc.out, Hwin.out]
          · show (if (n : Int) = 0 then _ else if a = 10 then _ else _) = _
            rw [if_neg (by omega), if_neg h10, if_pos rfl]
        · have pre : ∀ {fl : Bool} {r : List S123 × Int × Int × Int}, ((a == 32 || a == 9) || a == 59) = fl → Ev (fun k => intarsiaref01_Read.j1 k s ws l c false i a n fl) r → Ev (fun k => intarsiaref01_Read.l0 k s ws l c false i) r := fun {fl r} hfl hj => by
            refine Ev.step ?_ (fun k => by rw [intarsiaref01_Read.l0, if_pos (by omega)])
            refine Ev.bind hat ?_
            refine Ev.congr hj (fun k => ?_)
            show (if (n : Int) = 0 then _ else if a = 10 then _ else _) = _
            rw [if_neg (by omega), if_neg h10, if_neg (by decide), refblank_eq, Option.bind_some]
            by_cases hb : (a == 32 || a == 9) = true
            · rw [if_pos hb, ← hfl, hb]
              rfl
            · have hbf : (a == 32 || a == 9) = false := by simpa using hb
              rw [if_neg hb, ← hfl, hbf]
              rfl
          by_cases hbl : a = 32 ∨ a = 9
          · obtain ⟨st', hR', e'⟩ := h.blank hbl (runesU (s.data.toList.drop (i + n)))
            obtain ⟨r, hr1, hr2⟩ := (ih (i + n) ws l (c + 1) st' (by omega) ⟨hin, by omega, b3, by omega, by omega, by omega⟩).2 hR'
            refine ⟨r, pre (fl := true) (by rcases hbl with rfl | rfl <;> rfl) ?_, by rw [q3, hr2, e']⟩
            refine Ev.step hr1 (fun k => ?_)
            have h59 : (a == 59) = false := by rcases hbl with rfl | rfl <;> rfl
            rw [intarsiaref01_Read.j1, if_pos rfl, if_neg (by decide), Hwc.out, Hwin.out, h59]
          · by_cases h59 : a = 59
            · subst h59
              obtain ⟨st', hR', e'⟩ := h.semi (runesU (s.data.toList.drop (i + n)))
              obtain ⟨r, hr1, hr2⟩ := (ih (i + n) ws l (c + 1) st' (by omega) ⟨hin, by omega, b3, by omega, by omega, by omega⟩).1 hR'
              refine ⟨r, pre (fl := true) rfl ?_, by rw [q3, hr2, e']⟩
              refine Ev.step hr1 (fun k => ?_)
              rw [intarsiaref01_Read.j1, if_pos rfl, if_neg (by decide), Hwc.out, Hwin.out]
              rfl
            · obtain ⟨r, hr1, hr2⟩ := word_says hs HB.out ih h hi q1 hin q3 q4 h10 (fun e => hbl (Or.inl e)) (fun e => hbl (Or.inr e)) h59
              refine ⟨r, pre (fl := false) ?_ hr1, hr2⟩
              have e1 : (a == 32) = false := by simp; exact fun e => hbl (Or.inl e)
              have e2 : (a == 9) = false := by simp; exact fun e => hbl (Or.inr e)
              have e3 : (a == 59) = false := by simpa using h59
              rw [e1, e2, e3]
              rfl
  · have hd : s.data.toList.drop i = [] := List.eq_nil_of_length_eq_zero (by rw [List.length_drop, len_bytes]; omega)
    refine ⟨(ws, 0, 0, 0), Ev.step (Ev.const _) (fun k => by rw [intarsiaref01_Read.l0, if_neg (by omega)]), ?_⟩
    rw [hd, runesU_nil]
    rcases hst with ⟨_, h⟩ | ⟨_, h⟩
    · rw [h.done]
    · rw [h.done]

end

theorem read_from (s : ByteArray) (hs : s.size ≤ 1000000000) : ∀ (m i : Nat) (ws : List S123) (l c : Int) (rem : Bool) (st : Rd), s.size - i ≤ m → Between s i ws l c →
    ((rem = true ∧ Rem st (ws.map toWd) l c) ∨ (rem = false ∧ Rest st (ws.map toWd) l c)) → ReadSays s i ws l c rem st := by
  intro m
  induction m with
  | zero =>
    intro i ws l c rem st hm hB hst
    refine step_says hs hB (fun i' ws' l' c' st' hlt hB' => ?_) rem hst
    have := hB'.fits
    omega
  | succ m ih =>
    intro i ws l c rem st hm hB hst
    refine step_says hs hB (fun i' ws' l' c' st' hlt hB' => ?_) rem hst
    have hf := hB'.fits
    exact ⟨fun h => ih i' ws' l' c' true st' (by omega) hB' (Or.inl ⟨rfl, h⟩), fun h => ih i' ws' l' c' false st' (by omega) hB' (Or.inr ⟨rfl, h⟩)⟩

theorem init_rest : Rest Rd.init [] 1 1 := ⟨rfl, rfl, rfl, rfl, rfl⟩

/-- the document's reader tells what word.Read tells -/
theorem refRead_says (s : ByteArray) (hs : s.size ≤ 1000000000) : ∃ r : List S123 × Int × Int × Int, (∃ k, intarsiaref01_Read.f k s = some r) ∧ (r.1.map toWd, r.2) = wordRead s := by
  obtain ⟨r, ⟨K, hK⟩, h⟩ := read_from s hs s.size 0 [] 1 1 false Rd.init (by omega) ⟨Nat.zero_le _, Nat.le_refl _, by omega, by omega, by omega, by omega⟩ (Or.inr ⟨rfl, init_rest⟩)
  refine ⟨r, ⟨K, hK K (Nat.le_refl _)⟩, ?_⟩
  rw [h, wordRead_end, List.drop_zero]

end Go.Proofs.YtfpjdgobannneaaGreatDoor
