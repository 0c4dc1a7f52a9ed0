/-
  What word.Read computes, as Lean functions, and the bounds that its loop keeps.
-/
import Derived.Test.YtoibcaoaljglbaaDoorWordG
import Derived.Lib.OthersKept
namespace Go.Proofs.YtoibcaoaljglbaaDoor
open Go Go.RowKit

def badRune (s : ByteArray) (k : Nat) (r : Int) : Bool := r == 65533 && !(Lib.hasPrefix (s.extract k s.size).data.toList [239, 191, 189])

def Rd.look (st : Rd) (bad : Bool) : Rd := if bad = true then st.close.fail 6 st.line st.col else st

def Rd.go (st : Rd) (r : Int) : Rd := (st.take r).over r

def rdLoop (s : ByteArray) : Nat → Nat → Rd → Rd
  | 0, _, st => st
  | f + 1, k, st =>
    if k < s.size then
      (if (st.look (badRune s k (Utf8.decode s k).1)).wrong = 0 then
        rdLoop s f (k + (Utf8.decode s k).2) ((st.look (badRune s k (Utf8.decode s k).1)).go (Utf8.decode s k).1)
      else st.look (badRune s k (Utf8.decode s k).1))
    else st

def Rd.init : Rd := ⟨1, 1, 0, 0, 0, [], [], 0, 0, 0⟩

def rdAll (s : ByteArray) : Rd := (rdLoop s (s.size + 1) 0 Rd.init).close

/-- what word.Read tells -/
def wordRead (s : ByteArray) : List Wd × Int × Int × Int :=
  if (rdAll s).wrong = 0 then ((rdAll s).words, 0, 0, 0) else ([], (rdAll s).al, (rdAll s).ac, (rdAll s).wrong)

theorem decode_pos (s : ByteArray) (k : Nat) : 1 ≤ (Utf8.decode s k).2 := by
  unfold Utf8.decode
  simp only
  repeat' split
  all_goals simp

/-- what the loop keeps: k bytes are read -/
structure Rd.Fits (st : Rd) (k : Nat) : Prop where
  words : st.words.length ≤ 2 * k
  text : st.text.length ≤ k
  line0 : 0 ≤ st.line
  line1 : st.line ≤ k + 1
  col0 : 0 ≤ st.col
  col1 : st.col ≤ k + 1

theorem fail_fields (s : Rd) (e l c : Int) : (s.fail e l c).line = s.line ∧ (s.fail e l c).col = s.col ∧ (s.fail e l c).words = s.words ∧ (s.fail e l c).text = s.text := by
  unfold Rd.fail
  split <;> exact ⟨rfl, rfl, rfl, rfl⟩

theorem begin_fields (st : Rd) (c : Int) : (st.begin c).line = st.line ∧ (st.begin c).col = st.col ∧ (st.begin c).words.length ≤ st.words.length + 1 ∧ (st.begin c).text = [c] := by
  unfold Rd.begin
  repeat' split
  all_goals first
    | (refine ⟨rfl, rfl, ?_, rfl⟩; simp [Rd.fresh, Rd.put]; done)
    | (obtain ⟨h1, h2, h3, h4⟩ := fail_fields (st.fresh c) 6 st.line st.col; rw [h1, h2, h3, h4]; exact ⟨rfl, rfl, Nat.le_succ _, rfl⟩)

theorem take_fields (st : Rd) (c : Int) : (st.take c).line = st.line ∧ (st.take c).col = st.col ∧ (st.take c).words.length ≤ st.words.length + 2 ∧ (st.take c).text.length ≤ st.text.length + 1 := by
  unfold Rd.take
  split
  · split
    · obtain ⟨h1, h2, h3, h4⟩ := begin_fields { st with state := 0 } 10
      rw [h1, h2, h4]
      exact ⟨rfl, rfl, Nat.le_succ_of_le h3, by simp⟩
    · exact ⟨rfl, rfl, by omega, by omega⟩
  · split
    · exact ⟨rfl, rfl, by simp [Rd.more], by simp [Rd.more]⟩
    · split
      · exact ⟨rfl, rfl, by simp [Rd.more], by simp [Rd.more]⟩
      · split
        · obtain ⟨h1, h2, h3, h4⟩ := begin_fields ((st.close.fail 6 st.line st.col).close) c
          obtain ⟨c1, c2⟩ := close_line (st.close.fail 6 st.line st.col)
          obtain ⟨d1, d2⟩ := close_line st
          obtain ⟨f1, f2, f3, f4⟩ := fail_fields st.close 6 st.line st.col
          have w1 := close_words st
          have hz : (st.close.fail 6 st.line st.col).state = 0 := by unfold Rd.fail; split <;> rfl
          have w2 : (st.close.fail 6 st.line st.col).close.words = (st.close.fail 6 st.line st.col).words := by
            show (st.close.fail 6 st.line st.col).close1.words = _
            unfold Rd.close1
            rw [hz]
            rfl
          rw [h1, h2, h4, c1, c2, f1, f2, d1, d2]
          rw [w2, f3] at h3
          exact ⟨rfl, rfl, by omega, by simp⟩
        · obtain ⟨h1, h2, h3, h4⟩ := begin_fields st.close c
          obtain ⟨d1, d2⟩ := close_line st
          have w1 := close_words st
          rw [h1, h2, h4, d1, d2]
          exact ⟨rfl, rfl, by omega, by simp⟩

theorem go_fits {st : Rd} {k n : Nat} (h : st.Fits k) (hn : 1 ≤ n) (r : Int) : (st.go r).Fits (k + n) := by
  obtain ⟨h1, h2, h3, h4⟩ := take_fields st r
  obtain ⟨w, t, l0, l1, c0, c1⟩ := h
  unfold Rd.go Rd.over
  split
  · refine ⟨?_, ?_, ?_, ?_, ?_, ?_⟩
    · show (st.take r).words.length ≤ _
      omega
    · show (st.take r).text.length ≤ _
      omega
    · show 0 ≤ (st.take r).line + 1
      omega
    · show (st.take r).line + 1 ≤ _
      omega
    · show (0 : Int) ≤ 1
      omega
    · show (1 : Int) ≤ _
      omega
  · refine ⟨?_, ?_, ?_, ?_, ?_, ?_⟩
    · show (st.take r).words.length ≤ _
      omega
    · show (st.take r).text.length ≤ _
      omega
    · show 0 ≤ (st.take r).line
      omega
    · show (st.take r).line ≤ _
      omega
    · show 0 ≤ (st.take r).col + 1
      omega
    · show (st.take r).col + 1 ≤ _
      omega

theorem init_fits : Rd.init.Fits 0 := ⟨by simp [Rd.init], by simp [Rd.init], by simp [Rd.init], by simp [Rd.init], by simp [Rd.init], by simp [Rd.init]⟩

end Go.Proofs.YtoibcaoaljglbaaDoor
