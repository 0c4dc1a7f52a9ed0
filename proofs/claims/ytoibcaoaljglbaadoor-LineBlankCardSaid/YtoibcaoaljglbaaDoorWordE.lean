/-
  strconv.Atoi as the reader leans on it; the contract of the reader's take.
-/
import Derived.Test.YtoibcaoaljglbaaDoorWordD
import Derived.Test.YtoibcaoaljglbaaDoorShelf
namespace Go.Proofs.YtoibcaoaljglbaaDoor
open Go Go.RowKit

theorem keeps_bytesWorld (S : Nat → Prop) (w : World) (e : TypeId) (t : ByteArray) : Keeps S w (Lib.bytesWorld w e t) := by
  unfold Lib.bytesWorld
  exact (((Keeps.refl S w).drew).alloc _).freeze (p := ⟨w.heap.size, _, none⟩) (Or.inr (Nat.le_refl _)) 1

theorem Atoi_holds : AtoiSaid := by
  intro s w hs hG
  cases h : Lib.atoiAll s.data.toList with
  | ok v =>
    have e1 : numOf s = (v, false) := by simp [numOf, h]
    rw [e1]
    refine (Tryd.strconv_Atoi_ok s (by omega) v h w).mono ?_
    rintro e w' ⟨rfl, hw⟩
    refine ⟨⟨_, rfl, fun _ => rfl, fun q => by simp at q⟩, ?_⟩
    rcases hw with rfl | ⟨t, rfl⟩
    · exact Keeps.refl _ _
    · exact keeps_bytesWorld _ _ _ _
  | range =>
    have e1 : numOf s = (Lib.atoiSat s.data.toList, true) := by simp [numOf, h]
    rw [e1]
    obtain ⟨tp, p, hv⟩ := hG.rng
    refine (Tryd.strconv_Atoi_range s hs h _ w hv (Or.inr ⟨tp, p, rfl⟩)).mono ?_
    rintro e w' ⟨N, rfl, _, _, hb⟩
    exact ⟨⟨_, rfl, fun q => by simp at q, fun _ => ⟨_, _, rfl⟩⟩, Keeps.of_below hb _⟩
  | _ =>
    have e1 : numOf s = (0, true) := by simp [numOf, h]
    rw [e1]
    obtain ⟨tp, p, hv⟩ := hG.syn
    refine (Tryd.strconv_Atoi_syntax s hs h _ w hv (Or.inr ⟨tp, p, rfl⟩)).mono ?_
    rintro e w' ⟨N, rfl, _, _, hb⟩
    exact ⟨⟨_, rfl, fun q => by simp at q, fun _ => ⟨_, _, rfl⟩⟩, Keeps.of_below hb _⟩

end Go.Proofs.YtoibcaoaljglbaaDoor
