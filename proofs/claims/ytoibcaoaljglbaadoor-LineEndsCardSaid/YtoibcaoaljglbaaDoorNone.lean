/-
  The contract of none (layer 2's law): no cursor tells nothing.
-/
import Derived.Test.YtoibcaoaljglbaaDoorDead
import Derived.Test.YtoibcaoaljglbaaDoorLawA
namespace Go.Proofs.YtoibcaoaljglbaaDoor
open Go Go.RowKit
set_option linter.unusedSimpArgs false

section
set_option maxRecDepth 100000
set_option maxHeartbeats 4000000

/-- the loop's relation -/
structure NAt (w wr : World) : Prop where
  keep : Keeps (fun _ => False) w wr
  c0 : wr.cell? ⟨w.heap.size + 1, 0, none⟩ = some (.pointer none)
  c1 : wr.cell? ⟨w.heap.size + 1, 1, none⟩ = some (.pointer (some ⟨w.heap.size, 0, none⟩))
  made : wr.cell? ⟨w.heap.size, 4, none⟩ = some (.bool false)

theorem NAt.next {w wr w2 : World} (h : NAt w wr) (hk : Keeps (fun _ => False) wr w2) : NAt w w2 :=
  ⟨h.keep.trans hk, hk.cell' h.c0 (by simp), hk.cell' h.c1 (by simp), hk.cell' h.made (by simp)⟩

theorem NAt.at {w wr : World} (h : NAt w wr) {k : Nat} (hk : k < 2) : ∃ p, wr.cell? ⟨w.heap.size + 1, k, none⟩ = some (.pointer p) ∧ DeadC wr p := by
  match k, hk with
  | 0, _ => exact ⟨none, h.c0, Or.inl rfl⟩
  | 1, _ => exact ⟨_, h.c1, Or.inr ⟨_, rfl, h.made⟩⟩

theorem none_calls (w : World) : Calls Tryd.prog 22 #[] w fun e w' => e = .returned (.bool true) ∧ Keeps (fun _ => False) w w' := by
  have Hst := Lib.hid (show NAt w ((w.alloc (.cells #[.slice none 0 0, .int .i64 0, .int .i64 0, .int .i64 0, .bool false] 67)).alloc (.cells #[.pointer none, .pointer (some ⟨w.heap.size, 0, none⟩)] 27)) from by
    have hb1 := blk_alloc (blk_new w (.cells #[.slice none 0 0, .int .i64 0, .int .i64 0, .int .i64 0, .bool false] 67)) (.cells #[.pointer none, .pointer (some ⟨w.heap.size, 0, none⟩)] 27)
    have hb2 := blk_new (w.alloc (.cells #[.slice none 0 0, .int .i64 0, .int .i64 0, .int .i64 0, .bool false] 67)) (.cells #[.pointer none, .pointer (some ⟨w.heap.size, 0, none⟩)] 27)
    have e : (w.alloc (.cells #[.slice none 0 0, .int .i64 0, .int .i64 0, .int .i64 0, .bool false] 67)).heap.size = w.heap.size + 1 := by simp
    rw [e] at hb2
    exact ⟨((Keeps.refl _ w).alloc _).alloc _, (blk_cell hb2 0).trans rfl, (blk_cell hb2 1).trans rfl, (blk_cell hb1 4).trans rfl⟩)
  go_enter Tryd.func22, Tryd.ntmps22
  go_wp2
  go_loopw [2] (fun vi wr => ∃ k : Nat, k ≤ 2 ∧ vi = .int .i64 k ∧ Hid (NAt w wr)) (fun vi _ => 2 - (intOf vi).toNat)
  case atStart => exact ⟨0, Nat.zero_le _, rfl, Hst⟩
  case round =>
    obtain ⟨k, hk, rfl, HR⟩ := hrel
    clear Hst
    by_cases hlt : k < 2
    · obtain ⟨p, hp, hd⟩ := HR.out.at hlt
      have Hd := Lib.hid hd
      clear hd
      go_wp2_with (first | (go_at_call 23; go_loud (refine (dead_mark (Hd.out.keep0 ((Keeps.refl _ wr).alloc (.cells #[.string ⟨#[97]⟩] 9))) wr.heap.size 0 [⟨#[97]⟩] (strs_one wr ⟨#[97]⟩ _) (by decide) 1).mono ?_; rintro e w1 ⟨rfl, k1⟩; have D1 := Lib.hid ((Hd.out.keep0 ((Keeps.refl _ wr).alloc (.cells #[.string ⟨#[97]⟩] 9))).keep0 k1); have R1 := Lib.hid (HR.out.next (((Keeps.refl _ wr).alloc (.cells #[.string ⟨#[97]⟩] 9)).trans k1)); clear k1)) | (go_at_call 12; refine (dead_end D1.out).mono ?_; rintro e w2 ⟨rfl, rfl⟩) | (go_at_call 18; refine (dead_fail D1.out 2).mono ?_; rintro e w2 ⟨rfl, rfl⟩) | (go_at_call 10; refine (dead_err D1.out).mono ?_; rintro e w2 ⟨rfl, rfl⟩) | (go_at_call 39; refine (dead_key D1.out _).mono ?_; rintro e w2 ⟨rfl, rfl⟩) | (go_at_call 15; refine (dead_Is D1.out _).mono ?_; rintro e w2 ⟨rfl, rfl⟩) | (go_at_call 13; refine (dead_name D1.out).mono ?_; rintro e w2 ⟨rfl, rfl⟩) | (go_at_call 14; refine (dead_num D1.out 0 9).mono ?_; rintro e w2 ⟨rfl, rfl⟩) | (go_at_call 11; refine (dead_more D1.out).mono ?_; rintro e w2 ⟨rfl, rfl⟩) | (go_at_call 43; refine (dead_ends D1.out).mono ?_; rintro e w2 ⟨rfl, rfl⟩) | (go_at_call 45; refine (dead_peek D1.out).mono ?_; rintro e w2 ⟨rfl, rfl⟩))
      go_roundw
      case rel => exact ⟨k + 1, by omega, by go_num, R1⟩
      case measure => simp [intOf]; omega
    · have hk2 : k = 2 := by omega
      go_wp2
      go_ret
      exact ⟨rfl, HR.out.keep⟩

end
end Go.Proofs.YtoibcaoaljglbaaDoor
