/-
  The walk of LineEnds.
-/
import Derived.Test.YtoibcaoaljglbaaDoorGetsB
import Derived.Test.YtoibcaoaljglbaaDoorNone
namespace Go.Proofs.YtoibcaoaljglbaaDoor
open Go Go.RowKit Go.Proofs.YtoibcaoaljglbaaDoorW.PrintLast
set_option linter.unusedSimpArgs false

def endTexts : List ByteArray := [⟨#[]⟩, ⟨#[10]⟩, ⟨#[10, 10]⟩, ⟨#[97]⟩, ⟨#[97, 10]⟩, ⟨#[10, 10, 97, 10, 10, 59, 120, 10, 98, 10]⟩, ⟨#[53]⟩, ⟨#[45, 53]⟩, ⟨#[226, 134, 146]⟩, ⟨#[61, 32, 61]⟩, ⟨#[97, 61, 53]⟩, ⟨#[65]⟩, ⟨#[49, 32, 50, 10, 51]⟩, ⟨#[59, 32, 120]⟩, ⟨#[97, 32, 49, 48, 57, 57, 53, 49, 49, 54, 50, 55, 55, 55, 55]⟩]

theorem endTexts_size : ∀ x ∈ endTexts, x.size ≤ 100 := by decide

theorem strs_all (w : World) (ss : List ByteArray) (ty : TypeId) : StrsAt (w.alloc (.cells (ss.map Value.string).toArray ty)) w.heap.size 0 ss := by
  intro j x hj
  rw [blk_cell (blk_new w _) (0 + j), Nat.zero_add]
  simp [hj]

theorem StrsAt.keep0 {w w' : World} {sb off : Nat} {ss : List ByteArray} (h : StrsAt w sb off ss) (hk : Keeps (fun _ => False) w w') : StrsAt w' sb off ss := h.keeps (S := fun _ => False) hk (by simp)

theorem gets_at (w : World) (k : Nat) : GetsAt (w.alloc (.cells #[.int .i64 ((k : Int) % 8), .int .i64 ((k : Int) % 7), .int .i64 5, .string ⟨#[97]⟩, .string ⟨#[61]⟩, .int .i64 ((k : Int) / 8), .int .i64 (-5), .int .i64 (4 + (k : Int) % 3), .string ⟨#[61]⟩, .string ⟨#[226, 134, 146]⟩, .int .i64 5, .int .i64 0, .int .i64 0, .string ⟨#[]⟩, .string ⟨#[]⟩, .int .i64 2, .int .i64 0, .int .i64 0, .string ⟨#[]⟩, .string ⟨#[]⟩, .int .i64 ((k : Int) % 5), .int .i64 0, .int .i64 0, .string ⟨#[97]⟩, .string ⟨#[]⟩] 41)) w.heap.size 0 [⟨(k : Int) % 8, (k : Int) % 7, 5, ⟨#[97]⟩, ⟨#[61]⟩⟩, ⟨(k : Int) / 8, -5, 4 + (k : Int) % 3, ⟨#[61]⟩, ⟨#[226, 134, 146]⟩⟩, ⟨5, 0, 0, ⟨#[]⟩, ⟨#[]⟩⟩, ⟨2, 0, 0, ⟨#[]⟩, ⟨#[]⟩⟩, ⟨(k : Int) % 5, 0, 0, ⟨#[97]⟩, ⟨#[]⟩⟩] := by
  intro i x hi
  have hb := blk_new w (.cells #[.int .i64 ((k : Int) % 8), .int .i64 ((k : Int) % 7), .int .i64 5, .string ⟨#[97]⟩, .string ⟨#[61]⟩, .int .i64 ((k : Int) / 8), .int .i64 (-5), .int .i64 (4 + (k : Int) % 3), .string ⟨#[61]⟩, .string ⟨#[226, 134, 146]⟩, .int .i64 5, .int .i64 0, .int .i64 0, .string ⟨#[]⟩, .string ⟨#[]⟩, .int .i64 2, .int .i64 0, .int .i64 0, .string ⟨#[]⟩, .string ⟨#[]⟩, .int .i64 ((k : Int) % 5), .int .i64 0, .int .i64 0, .string ⟨#[97]⟩, .string ⟨#[]⟩] 41)
  match i, hi with
  | 0, hi => obtain rfl := Option.some.inj hi; exact ⟨(blk_cell hb 0).trans rfl, (blk_cell hb 1).trans rfl, (blk_cell hb 2).trans rfl, (blk_cell hb 3).trans rfl, (blk_cell hb 4).trans rfl⟩
  | 1, hi => obtain rfl := Option.some.inj hi; exact ⟨(blk_cell hb 5).trans rfl, (blk_cell hb 6).trans rfl, (blk_cell hb 7).trans rfl, (blk_cell hb 8).trans rfl, (blk_cell hb 9).trans rfl⟩
  | 2, hi => obtain rfl := Option.some.inj hi; exact ⟨(blk_cell hb 10).trans rfl, (blk_cell hb 11).trans rfl, (blk_cell hb 12).trans rfl, (blk_cell hb 13).trans rfl, (blk_cell hb 14).trans rfl⟩
  | 3, hi => obtain rfl := Option.some.inj hi; exact ⟨(blk_cell hb 15).trans rfl, (blk_cell hb 16).trans rfl, (blk_cell hb 17).trans rfl, (blk_cell hb 18).trans rfl, (blk_cell hb 19).trans rfl⟩
  | 4, hi => obtain rfl := Option.some.inj hi; exact ⟨(blk_cell hb 20).trans rfl, (blk_cell hb 21).trans rfl, (blk_cell hb 22).trans rfl, (blk_cell hb 23).trans rfl, (blk_cell hb 24).trans rfl⟩
  | n + 5, hi => simp at hi

theorem gets_at2 (w : World) (k : Nat) : GetsAt (w.alloc (.cells #[.int .i64 ((k : Int) % 8), .int .i64 ((k : Int) % 7), .int .i64 5, .string ⟨#[97]⟩, .string ⟨#[61]⟩, .int .i64 ((k : Int) / 8), .int .i64 (-5), .int .i64 (4 + (k : Int) % 3), .string ⟨#[61]⟩, .string ⟨#[226, 134, 146]⟩, .int .i64 5, .int .i64 0, .int .i64 0, .string ⟨#[]⟩, .string ⟨#[]⟩, .int .i64 2, .int .i64 0, .int .i64 0, .string ⟨#[]⟩, .string ⟨#[]⟩, .int .i64 ((k : Int) % 5), .int .i64 0, .int .i64 0, .string ⟨#[97]⟩, .string ⟨#[]⟩] 41)) w.heap.size 10 [⟨5, 0, 0, ⟨#[]⟩, ⟨#[]⟩⟩, ⟨2, 0, 0, ⟨#[]⟩, ⟨#[]⟩⟩, ⟨(k : Int) % 5, 0, 0, ⟨#[97]⟩, ⟨#[]⟩⟩] := by
  intro i x hi
  have h := gets_at w k (i + 2) x hi
  rw [show 0 + (i + 2) * 5 = 10 + i * 5 by omega] at h
  exact h

theorem gets_fit (k : Nat) : GetsFit [⟨(k : Int) % 8, (k : Int) % 7, 5, ⟨#[97]⟩, ⟨#[61]⟩⟩, ⟨(k : Int) / 8, -5, 4 + (k : Int) % 3, ⟨#[61]⟩, ⟨#[226, 134, 146]⟩⟩, ⟨5, 0, 0, ⟨#[]⟩, ⟨#[]⟩⟩, ⟨2, 0, 0, ⟨#[]⟩, ⟨#[]⟩⟩, ⟨(k : Int) % 5, 0, 0, ⟨#[97]⟩, ⟨#[]⟩⟩] ∧ GetsFit [⟨5, 0, 0, ⟨#[]⟩, ⟨#[]⟩⟩, ⟨2, 0, 0, ⟨#[]⟩, ⟨#[]⟩⟩, ⟨(k : Int) % 5, 0, 0, ⟨#[97]⟩, ⟨#[]⟩⟩] := by
  refine ⟨⟨by simp, fun x hx => ?_⟩, ⟨by simp, fun x hx => ?_⟩⟩
  · simp only [List.mem_cons, List.not_mem_nil, or_false] at hx
    rcases hx with rfl | rfl | rfl | rfl | rfl <;> exact ⟨Nat.le_of_ble_eq_true rfl, Nat.le_of_ble_eq_true rfl⟩
  · simp only [List.mem_cons, List.not_mem_nil, or_false] at hx
    rcases hx with rfl | rfl | rfl <;> exact ⟨Nat.le_of_ble_eq_true rfl, Nat.le_of_ble_eq_true rfl⟩

/-- what both loops keep -/
structure EAt (w wr : World) : Prop where
  keep : Keeps (fun _ => False) w wr
  strs : StrsAt wr w.heap.size 0 endTexts

theorem EAt.next {w wr w2 : World} (h : EAt w wr) (hk : Keeps (fun _ => False) wr w2) : EAt w w2 := ⟨h.keep.trans hk, h.strs.keep0 hk⟩

section
set_option maxRecDepth 100000
set_option maxHeartbeats 4000000

theorem ends_calls' (w : World) (hG : Glob w) (h4 : 4 ≤ w.heap.size) : Calls Tryd.prog 6 #[] w (LineAllPost w) := by
  have HG := Lib.hid (fun (w' : World) (hk : Keeps (fun _ => False) w w') => (show Glob w' ∧ 4 ≤ w'.heap.size from ⟨hG.keeps hk (by simp), by have := hk.size; omega⟩))
  have Hst := Lib.hid (show EAt w (w.alloc (.cells #[.string ⟨#[]⟩, .string ⟨#[10]⟩, .string ⟨#[10, 10]⟩, .string ⟨#[97]⟩, .string ⟨#[97, 10]⟩, .string ⟨#[10, 10, 97, 10, 10, 59, 120, 10, 98, 10]⟩, .string ⟨#[53]⟩, .string ⟨#[45, 53]⟩, .string ⟨#[226, 134, 146]⟩, .string ⟨#[61, 32, 61]⟩, .string ⟨#[97, 61, 53]⟩, .string ⟨#[65]⟩, .string ⟨#[49, 32, 50, 10, 51]⟩, .string ⟨#[59, 32, 120]⟩, .string ⟨#[97, 32, 49, 48, 57, 57, 53, 49, 49, 54, 50, 55, 55, 55, 55]⟩] 9)) from ⟨(Keeps.refl _ w).alloc _, strs_all w endTexts 9⟩)
  clear hG h4
  go_enter Tryd.func6, Tryd.ntmps6
  go_wp2
  go_loopw [2] (fun vi wr => ∃ i : Nat, i ≤ 15 ∧ vi = .int .i64 i ∧ Hid (EAt w wr)) (fun vi _ => 15 - (intOf vi).toNat)
  case atStart => exact ⟨0, Nat.zero_le _, rfl, Hst⟩
  case round =>
    obtain ⟨i, hi, rfl, HR⟩ := hrel
    clear Hst
    by_cases hlt : i < 15
    · go_wp2
      go_loopw [3] (fun vk wr => ∃ k : Nat, k ≤ 64 ∧ vk = .int .i64 k ∧ Hid (EAt w wr)) (fun vk _ => 64 - (intOf vk).toNat)
      case atStart => exact ⟨0, Nat.zero_le _, rfl, HR⟩
      case round =>
        rename_i wr0
        obtain ⟨k, hk, rfl, HK⟩ := hrel
        clear HR
        by_cases hlk : k < 64
        · go_wp2
          have hget : endTexts[i]? = some (endTexts[i]'hlt) := List.getElem?_eq_getElem _
          have hm : endTexts[i]'hlt ∈ endTexts := List.getElem_mem _
          have Ht := Lib.hid (endTexts_size _ hm)
          have x0 : (wr.alloc (.cells #[.int .i64 ((k : Int) % 8), .int .i64 ((k : Int) % 7), .int .i64 5, .string ⟨#[97]⟩, .string ⟨#[61]⟩, .int .i64 ((k : Int) / 8), .int .i64 (-5), .int .i64 (4 + (k : Int) % 3), .string ⟨#[61]⟩, .string ⟨#[226, 134, 146]⟩, .int .i64 5, .int .i64 0, .int .i64 0, .string ⟨#[]⟩, .string ⟨#[]⟩, .int .i64 2, .int .i64 0, .int .i64 0, .string ⟨#[]⟩, .string ⟨#[]⟩, .int .i64 ((k : Int) % 5), .int .i64 0, .int .i64 0, .string ⟨#[97]⟩, .string ⟨#[]⟩] 41)).cell? ⟨w.heap.size, i, none⟩ = some (.string (endTexts[i]'hlt)) := by
            have := (HK.out.strs.keep0 ((Keeps.refl _ wr).alloc (.cells #[.int .i64 ((k : Int) % 8), .int .i64 ((k : Int) % 7), .int .i64 5, .string ⟨#[97]⟩, .string ⟨#[61]⟩, .int .i64 ((k : Int) / 8), .int .i64 (-5), .int .i64 (4 + (k : Int) % 3), .string ⟨#[61]⟩, .string ⟨#[226, 134, 146]⟩, .int .i64 5, .int .i64 0, .int .i64 0, .string ⟨#[]⟩, .string ⟨#[]⟩, .int .i64 2, .int .i64 0, .int .i64 0, .string ⟨#[]⟩, .string ⟨#[]⟩, .int .i64 ((k : Int) % 5), .int .i64 0, .int .i64 0, .string ⟨#[97]⟩, .string ⟨#[]⟩] 41))) i _ hget
            rwa [Nat.zero_add] at this
          have KA := Lib.hid (HK.out.keep.alloc (.cells #[.int .i64 ((k : Int) % 8), .int .i64 ((k : Int) % 7), .int .i64 5, .string ⟨#[97]⟩, .string ⟨#[61]⟩, .int .i64 ((k : Int) / 8), .int .i64 (-5), .int .i64 (4 + (k : Int) % 3), .string ⟨#[61]⟩, .string ⟨#[226, 134, 146]⟩, .int .i64 5, .int .i64 0, .int .i64 0, .string ⟨#[]⟩, .string ⟨#[]⟩, .int .i64 2, .int .i64 0, .int .i64 0, .string ⟨#[]⟩, .string ⟨#[]⟩, .int .i64 ((k : Int) % 5), .int .i64 0, .int .i64 0, .string ⟨#[97]⟩, .string ⟨#[]⟩] 41))
          have GA := Lib.hid (gets_at wr k)
          have GB := Lib.hid (gets_at2 wr k)
          have Hf := Lib.hid gets_fit
          have LA := Lib.hid (show wr.heap.size < (wr.alloc (.cells #[.int .i64 ((k : Int) % 8), .int .i64 ((k : Int) % 7), .int .i64 5, .string ⟨#[97]⟩, .string ⟨#[61]⟩, .int .i64 ((k : Int) / 8), .int .i64 (-5), .int .i64 (4 + (k : Int) % 3), .string ⟨#[61]⟩, .string ⟨#[226, 134, 146]⟩, .int .i64 5, .int .i64 0, .int .i64 0, .string ⟨#[]⟩, .string ⟨#[]⟩, .int .i64 2, .int .i64 0, .int .i64 0, .string ⟨#[]⟩, .string ⟨#[]⟩, .int .i64 ((k : Int) % 5), .int .i64 0, .int .i64 0, .string ⟨#[97]⟩, .string ⟨#[]⟩] 41)).heap.size by simp)
          have K56 := Lib.hid (fun (w5 w6 : World) (k5 : Keeps (fun _ => False) (wr.alloc (.cells #[.int .i64 ((k : Int) % 8), .int .i64 ((k : Int) % 7), .int .i64 5, .string ⟨#[97]⟩, .string ⟨#[61]⟩, .int .i64 ((k : Int) / 8), .int .i64 (-5), .int .i64 (4 + (k : Int) % 3), .string ⟨#[61]⟩, .string ⟨#[226, 134, 146]⟩, .int .i64 5, .int .i64 0, .int .i64 0, .string ⟨#[]⟩, .string ⟨#[]⟩, .int .i64 2, .int .i64 0, .int .i64 0, .string ⟨#[]⟩, .string ⟨#[]⟩, .int .i64 ((k : Int) % 5), .int .i64 0, .int .i64 0, .string ⟨#[97]⟩, .string ⟨#[]⟩] 41)).drew w5) (k6 : Keeps (fun _ => False) w5 w6) => k5.trans k6)
          clear hget hm
          generalize endTexts[i]'hlt = t at *
          refine start_ (n := 17) (S := (fun w' => w'.cell? ⟨w.heap.size, i, none⟩ = some (.string t))) (ds := []) #[false, false, false, false, false, false, false, false, false, false, false, false, false, false, false, false, false] (by kernel_rfl) rfl rfl (by exact x0) (fun hHeld => ?_)
          refine pure_ (i := 0) (N := some 33) (v := ?_) (a' := ?_) #[true, false, false, false, false, false, false, false, false, false, false, false, false, false, false, false, false] rfl rfl (by kernel_rfl) (fun _ _ _ h => h) (Or.inl ⟨by rfl, ?_⟩) ?_ ?_
          rotate_left
          · intro w'
            go_simp
            with_reducible rfl
          rotate_left
          · simp only [Act.put, List.setIfInBounds_toArray, List.set_cons_zero, List.set_cons_succ]
            rfl
          refine pure_ (i := 1) (N := some 34) (v := ?_) (a' := ?_) #[true, true, false, false, false, false, false, false, false, false, false, false, false, false, false, false, false] rfl rfl (by kernel_rfl) (fun _ _ _ h => h) (Or.inl ⟨by rfl, ?_⟩) ?_ ?_
          rotate_left
          · intro w'
            go_simp
            with_reducible rfl
          rotate_left
          · simp only [Act.put, List.setIfInBounds_toArray, List.set_cons_zero, List.set_cons_succ]
            rfl
          refine pure_ (i := 2) (N := some 35) (v := ?_) (a' := ?_) #[true, true, true, false, false, false, false, false, false, false, false, false, false, false, false, false, false] rfl rfl (by kernel_rfl) (fun _ _ _ h => h) (Or.inl ⟨by rfl, ?_⟩) ?_ ?_
          rotate_left
          · intro w'
            go_simp
            with_reducible rfl
          rotate_left
          · simp only [Act.put, List.setIfInBounds_toArray, List.set_cons_zero, List.set_cons_succ]
            rfl
          refine take_ (i := 3) (N := some 36) (v := ?_) (a' := ?_) #[true, true, true, true, false, false, false, false, false, false, false, false, false, false, false, false, false] rfl rfl (by kernel_rfl) (fun _ _ _ h => h) (Or.inl ⟨by rfl, ?_⟩) hHeld ?_ ?_
          rotate_left
          · intro w' hSw
            have hs0 := hSw
            go_simp
            with_reducible rfl
          rotate_left
          · simp only [Act.put, List.setIfInBounds_toArray, List.set_cons_zero, List.set_cons_succ]
            rfl
          refine pure_ (i := 4) (N := some 37) (v := ?_) (a' := ?_) #[true, true, true, true, true, false, false, false, false, false, false, false, false, false, false, false, false] rfl rfl (by kernel_rfl) (fun _ _ _ h => h) (Or.inl ⟨by rfl, ?_⟩) ?_ ?_
          rotate_left
          · intro w'
            go_simp
            with_reducible rfl
          rotate_left
          · simp only [Act.put, List.setIfInBounds_toArray, List.set_cons_zero, List.set_cons_succ]
            rfl
          refine one_ (i := 5) (N := some 38) #[true, true, true, true, true, true, false, false, false, false, false, false, false, false, false, false, false] rfl rfl (by kernel_rfl) (by decide) (fun K hK => ?_)
          refine goes_ (f := 5) Tryd.func5 (by kernel_rfl) rfl #[.string t, .slice (some ⟨wr.heap.size, 0, none⟩) 5 5] (by rfl) rfl rfl (by simp only [List.map_toArray, List.map_cons, List.map_nil]; rfl) ?_
          refine (gets_calls t (some ⟨wr.heap.size, 0, none⟩) 5 wr.heap.size 0 [⟨(k : Int) % 8, (k : Int) % 7, 5, ⟨#[97]⟩, ⟨#[61]⟩⟩, ⟨(k : Int) / 8, -5, 4 + (k : Int) % 3, ⟨#[61]⟩, ⟨#[226, 134, 146]⟩⟩, ⟨5, 0, 0, ⟨#[]⟩, ⟨#[]⟩⟩, ⟨2, 0, 0, ⟨#[]⟩, ⟨#[]⟩⟩, ⟨(k : Int) % 5, 0, 0, ⟨#[97]⟩, ⟨#[]⟩⟩] _ (HG.out _ KA.out.drew).1 (HG.out _ KA.out.drew).2 (by have := Ht.out; omega) (GA.out.keeps ((Keeps.refl (fun _ => False) _).drew) (by simp)) (fun _ => rfl) (Hf.out _).1 LA.out).mono ?_
          rintro e w5 ⟨rfl, k5⟩
          refine ⟨_, rfl, ?_⟩
          have K5 := Lib.hid (KA.out.drew.trans k5)
          have G5 := Lib.hid (GB.out.keeps (((Keeps.refl (fun _ => False) _).drew).trans k5) (by simp))
          have L5 := Lib.hid (show wr.heap.size < w5.heap.size from Nat.lt_of_lt_of_le LA.out k5.size)
          refine hK.out _ _ (k5.cell' (p := ⟨w.heap.size, i, none⟩) hHeld (by simp)) (fun hHeld => ?_)
          clear hK K
          refine norm_ (a' := ?na1005) ?nb1005 ?nc1005
          case nb1005 =>
            simp only [Act.put, List.setIfInBounds_toArray, List.set_cons_zero, List.set_cons_succ]
            rfl
          refine pure_ (i := 6) (N := some 39) (v := ?_) (a' := ?_) #[true, true, true, true, true, true, true, false, false, false, false, false, false, false, false, false, false] rfl rfl (by kernel_rfl) (fun _ _ _ h => h) (Or.inl ⟨by rfl, ?_⟩) ?_ ?_
          rotate_left
          · intro w'
            go_simp
            with_reducible rfl
          rotate_left
          · simp only [Act.put, List.setIfInBounds_toArray, List.set_cons_zero, List.set_cons_succ]
            rfl
          refine pure_ (i := 7) (N := some 40) (v := ?_) (a' := ?_) #[true, true, true, true, true, true, true, true, false, false, false, false, false, false, false, false, false] rfl rfl (by kernel_rfl) (fun _ _ _ h => h) (Or.inl ⟨by rfl, ?_⟩) ?_ ?_
          rotate_left
          · intro w'
            go_simp
            with_reducible rfl
          rotate_left
          · simp only [Act.put, List.setIfInBounds_toArray, List.set_cons_zero, List.set_cons_succ]
            rfl
          refine pure_ (i := 8) (N := some 41) (v := ?_) (a' := ?_) #[true, true, true, true, true, true, true, true, true, false, false, false, false, false, false, false, false] rfl rfl (by kernel_rfl) (fun _ _ _ h => h) (Or.inl ⟨by rfl, ?_⟩) ?_ ?_
          rotate_left
          · intro w'
            go_simp
            with_reducible rfl
          rotate_left
          · simp only [Act.put, List.setIfInBounds_toArray, List.set_cons_zero, List.set_cons_succ]
            rfl
          refine pure_ (i := 9) (N := some 42) (v := ?_) (a' := ?_) #[true, true, true, true, true, true, true, true, true, true, false, false, false, false, false, false, false] rfl rfl (by kernel_rfl) (fun _ _ _ h => h) (Or.inl ⟨by rfl, ?_⟩) ?_ ?_
          rotate_left
          · intro w'
            go_simp
            with_reducible rfl
          rotate_left
          · simp only [Act.put, List.setIfInBounds_toArray, List.set_cons_zero, List.set_cons_succ]
            rfl
          refine pure_ (i := 10) (N := some 43) (v := ?_) (a' := ?_) #[true, true, true, true, true, true, true, true, true, true, true, false, false, false, false, false, false] rfl rfl (by kernel_rfl) (fun _ _ _ h => h) (Or.inl ⟨by rfl, ?_⟩) ?_ ?_
          rotate_left
          · intro w'
            go_simp
            with_reducible rfl
          rotate_left
          · simp only [Act.put, List.setIfInBounds_toArray, List.set_cons_zero, List.set_cons_succ]
            rfl
          refine take_ (i := 11) (N := some 44) (v := ?_) (a' := ?_) #[true, true, true, true, true, true, true, true, true, true, true, true, false, false, false, false, false] rfl rfl (by kernel_rfl) (fun _ _ _ h => h) (Or.inl ⟨by rfl, ?_⟩) hHeld ?_ ?_
          rotate_left
          · intro w' hSw
            have hs0 := hSw
            go_simp
            with_reducible rfl
          rotate_left
          · simp only [Act.put, List.setIfInBounds_toArray, List.set_cons_zero, List.set_cons_succ]
            rfl
          refine pure_ (i := 12) (N := some 45) (v := ?_) (a' := ?_) #[true, true, true, true, true, true, true, true, true, true, true, true, true, false, false, false, false] rfl rfl (by kernel_rfl) (fun _ _ _ h => h) (Or.inl ⟨by rfl, ?_⟩) ?_ ?_
          rotate_left
          · intro w'
            go_simp
            with_reducible rfl
          rotate_left
          · simp only [Act.put, List.setIfInBounds_toArray, List.set_cons_zero, List.set_cons_succ]
            rfl
          refine pure_ (i := 13) (N := some 46) (v := ?_) (a' := ?_) #[true, true, true, true, true, true, true, true, true, true, true, true, true, true, false, false, false] rfl rfl (by kernel_rfl) (fun _ _ _ h => h) (Or.inl ⟨by rfl, ?_⟩) ?_ ?_
          rotate_left
          · intro w'
            go_simp
            with_reducible rfl
          rotate_left
          · simp only [Act.put, List.setIfInBounds_toArray, List.set_cons_zero, List.set_cons_succ]
            rfl
          refine one_ (i := 14) (N := some 47) #[true, true, true, true, true, true, true, true, true, true, true, true, true, true, true, false, false] rfl rfl (by kernel_rfl) (by decide) (fun K hK => ?_)
          refine goes_ (f := 5) Tryd.func5 (by kernel_rfl) rfl #[.string t, .slice (some ⟨wr.heap.size, 10, none⟩) 3 3] (by rfl) rfl rfl (by simp only [List.map_toArray, List.map_cons, List.map_nil]; rfl) ?_
          refine (gets_calls t (some ⟨wr.heap.size, 10, none⟩) 3 wr.heap.size 10 [⟨5, 0, 0, ⟨#[]⟩, ⟨#[]⟩⟩, ⟨2, 0, 0, ⟨#[]⟩, ⟨#[]⟩⟩, ⟨(k : Int) % 5, 0, 0, ⟨#[97]⟩, ⟨#[]⟩⟩] _ (HG.out _ K5.out).1 (HG.out _ K5.out).2 (by have := Ht.out; omega) G5.out (fun _ => rfl) (Hf.out _).2 L5.out).mono ?_
          rintro e w6 ⟨rfl, k6⟩
          refine ⟨_, rfl, ?_⟩
          have K6 := Lib.hid ((Keeps.drew (Keeps.alloc (Keeps.refl (fun _ => False) wr) (.cells #[.int .i64 ((k : Int) % 8), .int .i64 ((k : Int) % 7), .int .i64 5, .string ⟨#[97]⟩, .string ⟨#[61]⟩, .int .i64 ((k : Int) / 8), .int .i64 (-5), .int .i64 (4 + (k : Int) % 3), .string ⟨#[61]⟩, .string ⟨#[226, 134, 146]⟩, .int .i64 5, .int .i64 0, .int .i64 0, .string ⟨#[]⟩, .string ⟨#[]⟩, .int .i64 2, .int .i64 0, .int .i64 0, .string ⟨#[]⟩, .string ⟨#[]⟩, .int .i64 ((k : Int) % 5), .int .i64 0, .int .i64 0, .string ⟨#[97]⟩, .string ⟨#[]⟩] 41))).trans (K56.out w5 w6 k5 k6))
          refine hK.out _ _ (k6.cell' (p := ⟨w.heap.size, i, none⟩) hHeld (by simp)) (fun hHeld => ?_)
          clear hK K
          refine norm_ (a' := ?na2014) ?nb2014 ?nc2014
          case nb2014 =>
            simp only [Act.put, List.setIfInBounds_toArray, List.set_cons_zero, List.set_cons_succ]
            rfl
          refine pure_ (i := 15) (N := some 48) (v := ?_) (a' := ?_) #[true, true, true, true, true, true, true, true, true, true, true, true, true, true, true, true, false] rfl rfl (by kernel_rfl) (fun _ _ _ h => h) (Or.inl ⟨by rfl, ?_⟩) ?_ ?_
          rotate_left
          · intro w'
            go_simp
            with_reducible rfl
          rotate_left
          · simp only [Act.put, List.setIfInBounds_toArray, List.set_cons_zero, List.set_cons_succ]
            rfl
          refine pure_ (i := 16) (N := some 49) (v := ?_) (a' := ?_) #[true, true, true, true, true, true, true, true, true, true, true, true, true, true, true, true, true] rfl rfl (by kernel_rfl) (fun _ _ _ h => h) (Or.inl ⟨by rfl, ?_⟩) ?_ ?_
          rotate_left
          · intro w'
            go_simp
            with_reducible rfl
          rotate_left
          · simp only [Act.put, List.setIfInBounds_toArray, List.set_cons_zero, List.set_cons_succ]
            rfl
          refine done_ (by kernel_rfl) ?_
          have HK2 := Lib.hid (HK.out.next K6.out)
          clear hHeld x0 k5 k6
          go_wp2
          go_roundw
          case rel => exact ⟨k + 1, by omega, by go_num, HK2⟩
          case measure => simp [intOf]; omega
        · go_wp2
          go_roundw
          case rel => exact ⟨i + 1, by omega, by go_num, HK⟩
          case measure => simp [intOf]; omega
    · go_wp2_with (first | (go_at_call 22; refine (none_calls wr).mono ?_; rintro e w7 ⟨rfl, k7⟩; have K7 := Lib.hid (HR.out.keep.trans k7); clear k7) | (go_at_call 7; refine (awake_calls _ (HG.out _ K7.out).1 (HG.out _ K7.out).2).mono ?_; rintro e w8 ⟨rfl, k8⟩; have K8 := Lib.hid (K7.out.trans k8); clear k8))
      go_ret
      exact ⟨rfl, K8.out⟩

end

end Go.Proofs.YtoibcaoaljglbaaDoor
