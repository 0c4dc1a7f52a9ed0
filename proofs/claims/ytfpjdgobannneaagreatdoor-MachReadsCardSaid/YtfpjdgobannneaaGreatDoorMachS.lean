
/-
  The machine of a text: the document's answer is the program's. A plain law.
-/
import Derived.Test.YtfpjdgobannneaaGreatDoorMachL
namespace Go.Proofs.YtfpjdgobannneaaGreatDoor
open Go Go.RowKit

instance (m : Mch) : Decidable (RightD m) := by unfold RightD RegsOk; infer_instance

/-- what the document's Parse tells of a cursor -/
def parseD (g : Nat) (c : Cur) : Mch × Int :=
  if (parseBy (regsR g) c).2.err.2.2 ≠ 0 then (Mch.zero, (parseBy (regsR g) c).2.err.2.2)
  else if RightD (parseBy (regsR g) c).1 then ((parseBy (regsR g) c).1, 0) else (Mch.zero, 2)

/-- what the document's Parse tells of a text -/
def parseDM (s : ByteArray) : Mch × Int := if 262144 < s.size then (Mch.zero, 3) else parseD ((overCur s).items.length + 1) (overCur s)

theorem parse_same (s : ByteArray) : parseM s = parseDM s := by
  unfold parseM parseDM
  split
  · rfl
  · obtain ⟨h1, h2⟩ := parse_near (overCur s) (overCur_ok s) ((overCur s).items.length + 1) ((overCur s).items.length + 1) (Nat.lt_succ_self _) (Nat.lt_succ_self _)
    unfold parseC parseD
    rw [h1]
    split
    · rfl
    · rename_i he
      have he0 : (parseBy (regsR ((overCur s).items.length + 1)) (overCur s)).2.err.2.2 = 0 := Decidable.not_not.1 he
      rw [h2 he0]
      by_cases hr : RightM (parseBy (regsR ((overCur s).items.length + 1)) (overCur s)).1
      · rw [if_pos hr, if_pos ((right_iff _).1 hr)]
      · rw [if_neg hr, if_neg (fun q => hr ((right_iff _).2 q))]

end Go.Proofs.YtfpjdgobannneaaGreatDoor
