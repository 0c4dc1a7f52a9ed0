
/-
  The bytes of runes, one by one: plain law.
-/
import Derived.Test.YtfpjdgobannneaaDoorRuneE
namespace Go.Proofs.YtfpjdgobannneaaDoor
open Go Go.RowKit

theorem runesBytes_cons (c : Int) (ns : List Int) : (runesBytes (c :: ns)).data.toList = (Utf8.encode c).data.toList ++ (runesBytes ns).data.toList := by
  have h : ∀ (ns : List Int) (s : ByteArray), (ns.foldl (fun r n => r ++ Utf8.encode n) s).data.toList = s.data.toList ++ (ns.foldl (fun r n => r ++ Utf8.encode n) ByteArray.empty).data.toList := by
    intro ns
    induction ns with
    | nil =>
      intro s
      show s.data.toList = s.data.toList ++ []
      rw [List.append_nil]
    | cons n t ih =>
      intro s
      simp only [List.foldl_cons]
      rw [ih (s ++ Utf8.encode n), ih (ByteArray.empty ++ Utf8.encode n), ByteArray.data_append, ByteArray.data_append, Array.toList_append, Array.toList_append]
      show s.data.toList ++ (Utf8.encode n).data.toList ++ _ = s.data.toList ++ ([] ++ (Utf8.encode n).data.toList ++ _)
      rw [List.nil_append, List.append_assoc]
  unfold runesBytes
  rw [List.foldl_cons, h, ByteArray.data_append, Array.toList_append]
  show ([] ++ (Utf8.encode c).data.toList) ++ _ = _
  rw [List.nil_append]

end Go.Proofs.YtfpjdgobannneaaDoor
