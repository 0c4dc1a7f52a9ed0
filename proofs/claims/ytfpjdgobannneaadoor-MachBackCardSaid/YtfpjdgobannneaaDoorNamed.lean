
/-
  The names that word.Read tells are not empty: plain law.
-/
import Derived.Test.YtfpjdgobannneaaDoorBytesA
namespace Go.Proofs.YtfpjdgobannneaaDoor
open Go Go.RowKit

/-- names told are not empty; nor is one that was begun -/
def NmI (st : Rd) : Prop := (∀ x ∈ st.words, x.kind = 1 → 0 < x.text.size) ∧ (st.state = 2 → st.text ≠ [])

theorem runesBytes_pos {c : Int} {t : List Int} : 0 < (runesBytes (c :: t)).size := by
  rw [← len_bytes, runesBytes_cons, List.length_append]
  have : 1 ≤ (Utf8.encode c).data.toList.length := by
    unfold Utf8.encode
    simp only
    repeat' split
    all_goals simp
  omega

theorem NmI.fail {st : Rd} (h : NmI st) (e l c : Int) : NmI (st.fail e l c) := by
  unfold Rd.fail
  split
  · exact h
  · exact h

theorem NmI.put {st : Rd} (h : NmI st) (k : Int) (s : ByteArray) (n : Int) (hk : k = 1 → 0 < s.size) : NmI (st.put k s n) := by
  refine ⟨fun x hx h1 => ?_, h.2⟩
  rcases List.mem_append.1 (show x ∈ st.words ++ [⟨k, s, n, st.fl, st.fc⟩] from hx) with h2 | h2
  · exact h.1 x h2 h1
  · simp at h2
    subst h2
    exact hk h1

theorem NmI.text_pos {st : Rd} (h : NmI st) (hs : st.state = 2) : 0 < (runesBytes st.text).size := by
  have := h.2 hs
  cases ht : st.text with
  | nil => exact absurd ht this
  | cons c t => exact runesBytes_pos

theorem NmI.close1 {st : Rd} (h : NmI st) : NmI st.close1 := by
  unfold Rd.close1
  split
  · rename_i hs
    split
    · exact (h.fail _ _ _).put _ _ _ (fun _ => h.text_pos hs)
    · exact h.put _ _ _ (fun _ => h.text_pos hs)
  · split
    · split
      · exact (h.fail _ _ _).put _ _ _ (fun q => absurd q (by decide))
      · exact h.put _ _ _ (fun q => absurd q (by decide))
    · split
      · exact h.fail _ _ _
      · exact h

theorem NmI.close {st : Rd} (h : NmI st) : NmI st.close := ⟨h.close1.1, fun q => absurd (show (0 : Int) = 2 from q) (by decide)⟩

theorem NmI.begin {st : Rd} (h : NmI st) (c : Int) : NmI (st.begin c) := by
  have hf : NmI (st.fresh c) := ⟨h.1, fun _ q => by cases q⟩
  unfold Rd.begin
  repeat' split
  all_goals first
    | exact ⟨h.1, fun _ q => by cases q⟩
    | exact hf.put _ _ _ (fun q => absurd q (by decide))
    | exact hf.fail _ _ _

theorem NmI.take {st : Rd} (h : NmI st) (c : Int) : NmI (st.take c) := by
  unfold Rd.take
  split
  · split
    · exact NmI.begin (st := { st with state := 0 }) ⟨h.1, fun q => absurd (show (0 : Int) = 2 from q) (by decide)⟩ _
    · exact h
  · split
    · exact ⟨h.1, fun _ q => by simp [Rd.more] at q⟩
    · split
      · exact ⟨h.1, fun _ q => by simp [Rd.more] at q⟩
      · split
        · exact NmI.begin (NmI.close (h.close.fail _ _ _)) _
        · exact h.close.begin _

theorem NmI.over {st : Rd} (h : NmI st) (r : Int) : NmI (st.over r) := by
  unfold Rd.over
  split
  · exact h
  · exact h

theorem NmI.look {st : Rd} (h : NmI st) (b : Bool) : NmI (st.look b) := by
  unfold Rd.look
  split
  · exact h.close.fail _ _ _
  · exact h

theorem rdLoop_named (s : ByteArray) : ∀ (f k : Nat) (st : Rd), NmI st → NmI (rdLoop s f k st)
  | 0, _, _, h => h
  | f + 1, k, st, h => by
    rw [rdLoop]
    split
    · split
      · exact rdLoop_named s f _ _ (((h.look _).take _).over _)
      · exact h.look _
    · exact h

theorem wordRead_named (s : ByteArray) : ∀ x ∈ (wordRead s).1, x.kind = 1 → 0 < x.text.size := by
  have h0 : NmI Rd.init := ⟨fun x hx => by simp [Rd.init] at hx, fun q => absurd (show (0 : Int) = 2 from q) (by decide)⟩
  have h : NmI (rdAll s) := (rdLoop_named s (s.size + 1) 0 _ h0).close
  unfold wordRead
  split
  · exact h.1
  · intro x hx
    simp at hx

end Go.Proofs.YtfpjdgobannneaaDoor
