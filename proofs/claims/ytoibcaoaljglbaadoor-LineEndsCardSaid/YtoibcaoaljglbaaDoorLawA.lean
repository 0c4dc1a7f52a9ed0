/-
  The chapter's example (awake of layer 2) is true.
-/
import Derived.Test.YtoibcaoaljglbaaDoorOverF
import Derived.Test.YtoibcaoaljglbaaDoorLineG
namespace Go.Proofs.YtoibcaoaljglbaaDoor
open Go Go.RowKit

theorem strs_one (w : World) (s : ByteArray) (t : TypeId) : StrsAt (w.alloc (.cells #[.string s] t)) w.heap.size 0 [s] := by
  intro j x hj
  match j, hj with
  | 0, hj =>
    simp at hj
    subst hj
    exact (blk_cell (blk_new w (.cells #[.string s] t)) 0).trans rfl

def awakeText : ByteArray := ⟨#[10, 120, 32, 226, 134, 144, 32, 53, 10]⟩

theorem awakeCur : overCur awakeText = ⟨[⟨2, 1, .name ⟨#[120]⟩⟩, ⟨2, 3, .mark ⟨#[226, 134, 144]⟩⟩, ⟨2, 5, .num 5⟩], 0, 0, 0⟩ := by kernel_rfl

def aw1 : Cur := ⟨[⟨2, 1, .name ⟨#[120]⟩⟩, ⟨2, 3, .mark ⟨#[226, 134, 144]⟩⟩, ⟨2, 5, .num 5⟩], 0, 0, 0⟩

theorem aw_name : aw1.name = (⟨#[120]⟩, ⟨[⟨2, 3, .mark ⟨#[226, 134, 144]⟩⟩, ⟨2, 5, .num 5⟩], 0, 0, 0⟩) := by kernel_rfl

theorem aw_mark : Cur.marks ⟨[⟨2, 3, .mark ⟨#[226, 134, 144]⟩⟩, ⟨2, 5, .num 5⟩], 0, 0, 0⟩ [⟨#[226, 134, 144]⟩] = ⟨[⟨2, 5, .num 5⟩], 0, 0, 0⟩ := by kernel_rfl

theorem aw_num : Cur.num ⟨[⟨2, 5, .num 5⟩], 0, 0, 0⟩ 0 9 = (5, ⟨[], 0, 0, 0⟩) := by kernel_rfl

theorem CS.sizes {w : World} {b ib : Nat} {st : Cur} (h : CS w b ib st) : b < w.heap.size := h.lt

set_option maxRecDepth 100000 in
set_option maxHeartbeats 1000000 in
theorem awake_calls (w : World) (hG : Glob w) (h8 : 4 ≤ w.heap.size) :
    Calls Tryd.prog 7 #[] w fun e w' => e = .returned (.bool true) ∧ Keeps (fun _ => False) w w' := by
  have Ho := Lib.hid (Over_calls awakeText w (by decide) hG h8)
  unfold awakeText at Ho
  clear hG h8
  go_enter Tryd.func7, Tryd.ntmps7
  go_wp2_with (first | (go_at_call 9; refine Ho.out.mono ?_; rintro e w1 ⟨b, ib, rfl, hb, hib, hcs, hk⟩; have h1 := hcs; rw [show overCur ⟨#[10, 120, 32, 226, 134, 144, 32, 53, 10]⟩ = aw1 from awakeCur] at h1; have n1 := name_calls h1; rw [aw_name] at n1; have Hn := Lib.hid n1; have Hk := Lib.hid hk; have Hb := Lib.hid hb; have Hib := Lib.hid hib; clear h1 n1 hcs hk hb hib) | (go_at_call 13; refine Hn.out.mono ?_; rintro e w2 ⟨rfl, h2, k2⟩; have m2 := Mark_calls (h2.keep0 ((Keeps.refl _ w2).alloc (.cells #[.string ⟨#[226, 134, 144]⟩] 9))) w2.heap.size 0 [⟨#[226, 134, 144]⟩] (strs_one _ _ _) (by have := h2.lt; omega) (by decide) 1; rw [aw_mark] at m2; have Hm := Lib.hid m2; have Hk2 := Lib.hid (Hk.out.trans' k2 (fun i hi q => by have := Hb.out; omega)); clear h2 k2 m2) | (go_at_call 23; refine Hm.out.mono ?_; rintro e w3 ⟨rfl, h3, k3⟩; have n3 := num_calls h3 0 9; rw [aw_num] at n3; have Hnum := Lib.hid n3; have Hk3 := Lib.hid ((Hk2.out.alloc _).trans' k3 (fun i hi q => by have := Hb.out; omega)); clear h3 k3 n3) | (go_at_call 14; refine Hnum.out.mono ?_; rintro e w4 ⟨rfl, h4, k4⟩; have He := Lib.hid (Err_calls h4); have H4 := Lib.hid h4; have Hk4 := Lib.hid (Hk3.out.trans' k4 (fun i hi q => by have := Hb.out; omega)); clear h4 k4) | (go_at_call 10; refine He.out.mono ?_; rintro e w5 ⟨rfl, k5⟩; have Hmo := Lib.hid (more_calls (H4.out.keep0 k5)); have Hk5 := Lib.hid (Hk4.out.trans k5); clear k5) | (go_at_call 11; refine Hmo.out.mono ?_; rintro e w6 ⟨rfl, rfl⟩))
  go_ret
  exact ⟨rfl, Hk5.out⟩

end Go.Proofs.YtoibcaoaljglbaaDoor
