/-
  The contracts of both, same (layer 2's law): the cursor and the document's cursor tell the same.
-/
import Derived.Test.YtoibcaoaljglbaaDoorRcD
namespace Go.Proofs.YtoibcaoaljglbaaDoor
open Go Go.RowKit Go.Proofs.YtoibcaoaljglbaaDoorW.PrintLast
set_option linter.unusedSimpArgs false

/-- what same does to a cursor -/
def Cur.gots (c : Cur) (x : GetX) : Cur := if pick8 x.what = 6 then c.fail x.least else c.gets x

section
set_option maxRecDepth 100000
set_option maxHeartbeats 4000000

theorem both_calls {w : World} {b ib b' g : Nat} {st : Cur} (hc : CS w b ib st) (hd : RCur w b' g st) :
    Calls Tryd.prog 20 #[.pointer (some ⟨b, 0, none⟩), .pointer (some ⟨b', 0, none⟩)] w fun e w' => e = .returned (.bool true) ∧ Keeps (fun _ => False) w w' := by
  have HC := Lib.hid hc
  have HD := Lib.hid hd
  clear hc hd
  go_enter Tryd.func20, Tryd.ntmps20
  go_wp2_with (first | (go_at_call 10; refine (Err_calls HC.out).mono ?_; rintro e w1 ⟨rfl, k1⟩; have C1 := Lib.hid (HC.out.keep0 k1); have D1 := Lib.hid (HD.out.keep0 k1); have K1 := Lib.hid k1; clear k1 HC HD) | (go_at_call 41; obtain ⟨ws, e0, l, c, rfl, hk, hz, hr⟩ := D1.out; refine (rerr_calls hr).mono ?_; rintro e w2 ⟨rfl, k2⟩; have C2 := Lib.hid (C1.out.keep0 k2); have R2 := Lib.hid (hr.keep0 k2); have HKK := Lib.hid hk; have D2 := Lib.hid (D1.out.keep0 k2); have K2 := Lib.hid (K1.out.trans k2); clear k2 hk hz hr C1 D1 K1) | (go_at_call 11; refine (more_calls C2.out).mono ?_; rintro e w3 ⟨rfl, rfl⟩) | (go_at_call 42; refine (rmore_calls R2.out).mono ?_; rintro e w3 ⟨rfl, rfl⟩) | (go_at_call 43; refine (ends_calls C2.out).mono ?_; rintro e w3 ⟨rfl, rfl⟩) | (go_at_call 44; refine (rends_calls R2.out HKK.out).mono ?_; rintro e w3 ⟨rfl, rfl⟩) | (go_at_call 45; refine (peek_calls C2.out).mono ?_; rintro e w3 ⟨rfl, rfl⟩) | (go_at_call 46; refine (rpeek_calls R2.out HKK.out).mono ?_; rintro e w3 ⟨rfl, rfl⟩))
  go_ret
  exact ⟨by simp, K2.out⟩

/-- what a call of same leaves -/
def SamePost (w : World) (b ib b' g : Nat) (st : Cur) (e : Ending) (w' : World) : Prop :=
  e = .returned (.bool true) ∧ CS w' b ib st ∧ RCur w' b' g st ∧ Keeps (fun k => k = b ∨ k = b') w w'

theorem same_calls {w : World} {b ib b' g : Nat} {st : Cur} (hc : CS w b ib st) (hd : RCur w b' g st) (hne : b ≠ b') (hib : ib ≠ b') (hg : g ≠ b) (x : GetX) :
    Calls Tryd.prog 21 #[.pointer (some ⟨b, 0, none⟩), .pointer (some ⟨b', 0, none⟩), .agg #[.int .i64 x.what, .int .i64 x.least, .int .i64 x.most, .string x.s, .string x.t]] w (SamePost w b ib b' g (st.gots x)) := by
  have hlt := hc.lt
  have hlt' := hd.lt
  obtain ⟨what, least, most, s, t⟩ := x
  have hpk := pick8_range what
  have Hg := Lib.hid (show Cur.gots st ⟨what, least, most, s, t⟩ = (if pick8 what = 6 then st.fail least else if pick8 what = 0 then st.isTo (.name s) else if pick8 what = 1 then st.isTo (.mark s) else if pick8 what = 2 then st.name.2 else if pick8 what = 3 then (st.num least most).2 else if pick8 what = 4 then st.marks [s, t] else if pick8 what = 5 then st.fin else st) from rfl)
  have Hpick := Lib.hid (pick_calls what)
  have hob := blk_new w (.cells #[.int .i64 what, .int .i64 least, .int .i64 most, .string s, .string t] 41)
  have y0 : (w.alloc (.cells #[.int .i64 what, .int .i64 least, .int .i64 most, .string s, .string t] 41)).cell? ⟨w.heap.size, 0, none⟩ = some (.int .i64 what) := (blk_cell hob 0).trans rfl
  have y1 : (w.alloc (.cells #[.int .i64 what, .int .i64 least, .int .i64 most, .string s, .string t] 41)).cell? ⟨w.heap.size, 1, none⟩ = some (.int .i64 least) := (blk_cell hob 1).trans rfl
  have y2 : (w.alloc (.cells #[.int .i64 what, .int .i64 least, .int .i64 most, .string s, .string t] 41)).cell? ⟨w.heap.size, 2, none⟩ = some (.int .i64 most) := (blk_cell hob 2).trans rfl
  have y3 : (w.alloc (.cells #[.int .i64 what, .int .i64 least, .int .i64 most, .string s, .string t] 41)).cell? ⟨w.heap.size, 3, none⟩ = some (.string s) := (blk_cell hob 3).trans rfl
  have y4 : (w.alloc (.cells #[.int .i64 what, .int .i64 least, .int .i64 most, .string s, .string t] 41)).cell? ⟨w.heap.size, 4, none⟩ = some (.string t) := (blk_cell hob 4).trans rfl
  have Hob := Lib.hid hob
  have HK := Lib.hid ((Keeps.refl (fun k => k = b ∨ k = b') w).alloc (.cells #[.int .i64 what, .int .i64 least, .int .i64 most, .string s, .string t] 41))
  have HC := Lib.hid (hc.keep0 ((Keeps.refl (fun _ => False) w).alloc (.cells #[.int .i64 what, .int .i64 least, .int .i64 most, .string s, .string t] 41)))
  have HD := Lib.hid (hd.keep0 ((Keeps.refl (fun _ => False) w).alloc (.cells #[.int .i64 what, .int .i64 least, .int .i64 most, .string s, .string t] 41)))
  clear hc hd hob
  generalize hpn : pick8 what = pn at *
  clear hpn
  have hcases : pn = 0 ∨ pn = 1 ∨ pn = 2 ∨ pn = 3 ∨ pn = 4 ∨ pn = 5 ∨ pn = 6 ∨ pn = 7 := by omega
  clear hpk
  have hbs : b ≠ w.heap.size ∧ b' ≠ w.heap.size := by omega
  go_enter Tryd.func21, Tryd.ntmps21
  rcases hcases with rfl | rfl | rfl | rfl | rfl | rfl | rfl | rfl
  · go_wp2_with (first | (go_at_call 38; refine (Hpick.out _).mono ?_; rintro e w4 ⟨rfl, hw4⟩; rw [hw4] at y0 y1 y2 y3 y4 Hob HK HC HD; clear hw4))
    refine start_ (n := 10) (S := (fun w' => w'.cell? ⟨w.heap.size, 3, none⟩ = some (.string s))) (ds := []) #[false, false, false, false, false, false, false, false, false, false] (by kernel_rfl) rfl rfl (by exact y3) (fun hHeld => ?_)
    refine pure_ (i := 0) (N := some 12) (v := ?_) (a' := ?_) #[true, false, false, false, false, false, false, false, false, false] rfl rfl (by kernel_rfl) (fun _ _ _ h => h) (Or.inl ⟨by rfl, ?_⟩) ?_ ?_
    rotate_left
    · intro w'
      go_simp
      with_reducible rfl
    rotate_left
    · simp only [Act.put, List.setIfInBounds_toArray, List.set_cons_zero, List.set_cons_succ]
      rfl
    refine pure_ (i := 1) (N := some 13) (v := ?_) (a' := ?_) #[true, true, false, false, false, false, false, false, false, false] rfl rfl (by kernel_rfl) (fun _ _ _ h => h) (Or.inl ⟨by rfl, ?_⟩) ?_ ?_
    rotate_left
    · intro w'
      go_simp
      with_reducible rfl
    rotate_left
    · simp only [Act.put, List.setIfInBounds_toArray, List.set_cons_zero, List.set_cons_succ]
      rfl
    refine take_ (i := 2) (N := some 14) (v := ?_) (a' := ?_) #[true, true, true, false, false, false, false, false, false, false] rfl rfl (by kernel_rfl) (fun _ _ _ h => h) (Or.inl ⟨by rfl, ?_⟩) hHeld ?_ ?_
    rotate_left
    · intro w' hSw
      have hs0 := hSw
      go_simp
      with_reducible rfl
    rotate_left
    · simp only [Act.put, List.setIfInBounds_toArray, List.set_cons_zero, List.set_cons_succ]
      rfl
    refine pure_ (i := 4) (N := some 16) (v := ?_) (a' := ?_) #[true, true, true, false, true, false, false, false, false, false] rfl rfl (by kernel_rfl) (fun _ _ _ h => h) (Or.inl ⟨by rfl, ?_⟩) ?_ ?_
    rotate_left
    · intro w'
      go_simp
      with_reducible rfl
    rotate_left
    · simp only [Act.put, List.setIfInBounds_toArray, List.set_cons_zero, List.set_cons_succ]
      rfl
    refine pure_ (i := 5) (N := some 17) (v := ?_) (a' := ?_) #[true, true, true, false, true, true, false, false, false, false] rfl rfl (by kernel_rfl) (fun _ _ _ h => h) (Or.inl ⟨by rfl, ?_⟩) ?_ ?_
    rotate_left
    · intro w'
      go_simp
      with_reducible rfl
    rotate_left
    · simp only [Act.put, List.setIfInBounds_toArray, List.set_cons_zero, List.set_cons_succ]
      rfl
    refine take_ (i := 6) (N := some 18) (v := ?_) (a' := ?_) #[true, true, true, false, true, true, true, false, false, false] rfl rfl (by kernel_rfl) (fun _ _ _ h => h) (Or.inl ⟨by rfl, ?_⟩) hHeld ?_ ?_
    rotate_left
    · intro w' hSw
      have hs0 := hSw
      go_simp
      with_reducible rfl
    rotate_left
    · simp only [Act.put, List.setIfInBounds_toArray, List.set_cons_zero, List.set_cons_succ]
      rfl
    refine one_ (i := 3) (N := some 15) #[true, true, true, true, true, true, true, false, false, false] rfl rfl (by kernel_rfl) (by decide) (fun K hK => ?_)
    refine goes_ (f := 39) Tryd.func39 (by kernel_rfl) rfl #[.pointer (some ⟨b, 0, none⟩), .string s] (by rfl) rfl rfl (by simp only [List.map_toArray, List.map_cons, List.map_nil]; rfl) ?_
    refine (key_calls (HC.out.keep0 (Keeps.drew (Keeps.refl _ _))) s).mono ?_
    rintro e w5 ⟨rfl, c5, k5⟩
    refine ⟨_, rfl, ?_⟩
    have d5 := (HD.out.keep0 (Keeps.drew (Keeps.refl _ _))).keeps k5 hne.symm hg
    have kk5 := (HK.out.trans (Keeps.drew (Keeps.refl _ _))).trans (Keeps.one k5)
    refine hK.out _ _ (k5.cell' (p := ⟨w.heap.size, 3, none⟩) hHeld (by intro q; have q2 : w.heap.size = b := q; omega)) (fun hHeld => ?_)
    clear hK K
    refine norm_ (a' := ?na1003) ?nb1003 ?nc1003
    case nb1003 =>
      simp only [Act.put, List.setIfInBounds_toArray, List.set_cons_zero, List.set_cons_succ]
      rfl
    refine one_ (i := 7) (N := some 19) #[true, true, true, true, true, true, true, true, false, false] rfl rfl (by kernel_rfl) (by decide) (fun K hK => ?_)
    refine goes_ (f := 47) Tryd.func47 (by kernel_rfl) rfl #[.pointer (some ⟨b', 0, none⟩), .string s] (by rfl) rfl rfl (by simp only [List.map_toArray, List.map_cons, List.map_nil]; rfl) ?_
    refine (rkey_calls d5 s).mono ?_
    rintro e w6 ⟨rfl, d6, k6⟩
    refine ⟨_, rfl, ?_⟩
    have c6 := c5.keeps k6 hne hib
    have kk6 := kk5.trans (Keeps.two k6)
    refine hK.out _ _ (k6.cell' (p := ⟨w.heap.size, 3, none⟩) hHeld (by intro q; have q2 : w.heap.size = b' := q; omega)) (fun hHeld => ?_)
    clear hK K
    refine norm_ (a' := ?na2007) ?nb2007 ?nc2007
    case nb2007 =>
      simp only [Act.put, List.setIfInBounds_toArray, List.set_cons_zero, List.set_cons_succ]
      rfl
    refine pure_ (i := 8) (N := some 20) (v := ?_) (a' := ?_) #[true, true, true, true, true, true, true, true, true, false] rfl rfl (by kernel_rfl) (fun _ _ _ h => h) (Or.inl ⟨by rfl, ?_⟩) ?_ ?_
    rotate_left
    · intro w'
      go_simp
      with_reducible rfl
    rotate_left
    · simp only [Act.put, List.setIfInBounds_toArray, List.set_cons_zero, List.set_cons_succ]
      rfl
    refine pure_ (i := 9) (N := some 6) (v := ?_) (a' := ?_) #[true, true, true, true, true, true, true, true, true, true] rfl rfl (by kernel_rfl) (fun _ _ _ h => h) (Or.inl ⟨by rfl, ?_⟩) ?_ ?_
    rotate_left
    · intro w'
      go_simp
      with_reducible rfl
    rotate_left
    · simp only [Act.put, List.setIfInBounds_toArray, List.set_cons_zero, List.set_cons_succ]
      rfl
    refine done_ (by kernel_rfl) ?_
    have bi : (st.is (.name s) == st.is (.name s)) = true := by simp
    clear hHeld y0 y1 y2 y3 y4
    go_wp2
    go_ret
    have hgn : Cur.gots st ⟨what, least, most, s, t⟩ = st.isTo (.name s) := Hg.out
    rw [hgn]
    exact ⟨rfl, c6, d6, kk6⟩
  · go_wp2_with (first | (go_at_call 38; refine (Hpick.out _).mono ?_; rintro e w4 ⟨rfl, hw4⟩; rw [hw4] at y0 y1 y2 y3 y4 Hob HK HC HD; clear hw4))
    refine start_ (n := 10) (S := (fun w' => w'.cell? ⟨w.heap.size, 3, none⟩ = some (.string s))) (ds := []) #[false, false, false, false, false, false, false, false, false, false] (by kernel_rfl) rfl rfl (by exact y3) (fun hHeld => ?_)
    refine pure_ (i := 0) (N := some 23) (v := ?_) (a' := ?_) #[true, false, false, false, false, false, false, false, false, false] rfl rfl (by kernel_rfl) (fun _ _ _ h => h) (Or.inl ⟨by rfl, ?_⟩) ?_ ?_
    rotate_left
    · intro w'
      go_simp
      with_reducible rfl
    rotate_left
    · simp only [Act.put, List.setIfInBounds_toArray, List.set_cons_zero, List.set_cons_succ]
      rfl
    refine pure_ (i := 1) (N := some 24) (v := ?_) (a' := ?_) #[true, true, false, false, false, false, false, false, false, false] rfl rfl (by kernel_rfl) (fun _ _ _ h => h) (Or.inl ⟨by rfl, ?_⟩) ?_ ?_
    rotate_left
    · intro w'
      go_simp
      with_reducible rfl
    rotate_left
    · simp only [Act.put, List.setIfInBounds_toArray, List.set_cons_zero, List.set_cons_succ]
      rfl
    refine take_ (i := 2) (N := some 25) (v := ?_) (a' := ?_) #[true, true, true, false, false, false, false, false, false, false] rfl rfl (by kernel_rfl) (fun _ _ _ h => h) (Or.inl ⟨by rfl, ?_⟩) hHeld ?_ ?_
    rotate_left
    · intro w' hSw
      have hs0 := hSw
      go_simp
      with_reducible rfl
    rotate_left
    · simp only [Act.put, List.setIfInBounds_toArray, List.set_cons_zero, List.set_cons_succ]
      rfl
    refine pure_ (i := 4) (N := some 27) (v := ?_) (a' := ?_) #[true, true, true, false, true, false, false, false, false, false] rfl rfl (by kernel_rfl) (fun _ _ _ h => h) (Or.inl ⟨by rfl, ?_⟩) ?_ ?_
    rotate_left
    · intro w'
      go_simp
      with_reducible rfl
    rotate_left
    · simp only [Act.put, List.setIfInBounds_toArray, List.set_cons_zero, List.set_cons_succ]
      rfl
    refine pure_ (i := 5) (N := some 28) (v := ?_) (a' := ?_) #[true, true, true, false, true, true, false, false, false, false] rfl rfl (by kernel_rfl) (fun _ _ _ h => h) (Or.inl ⟨by rfl, ?_⟩) ?_ ?_
    rotate_left
    · intro w'
      go_simp
      with_reducible rfl
    rotate_left
    · simp only [Act.put, List.setIfInBounds_toArray, List.set_cons_zero, List.set_cons_succ]
      rfl
    refine take_ (i := 6) (N := some 29) (v := ?_) (a' := ?_) #[true, true, true, false, true, true, true, false, false, false] rfl rfl (by kernel_rfl) (fun _ _ _ h => h) (Or.inl ⟨by rfl, ?_⟩) hHeld ?_ ?_
    rotate_left
    · intro w' hSw
      have hs0 := hSw
      go_simp
      with_reducible rfl
    rotate_left
    · simp only [Act.put, List.setIfInBounds_toArray, List.set_cons_zero, List.set_cons_succ]
      rfl
    refine one_ (i := 3) (N := some 26) #[true, true, true, true, true, true, true, false, false, false] rfl rfl (by kernel_rfl) (by decide) (fun K hK => ?_)
    refine goes_ (f := 15) Tryd.func15 (by kernel_rfl) rfl #[.pointer (some ⟨b, 0, none⟩), .string s] (by rfl) rfl rfl (by simp only [List.map_toArray, List.map_cons, List.map_nil]; rfl) ?_
    refine (Is_calls (HC.out.keep0 (Keeps.drew (Keeps.refl _ _))) s).mono ?_
    rintro e w5 ⟨rfl, c5, k5⟩
    refine ⟨_, rfl, ?_⟩
    have d5 := (HD.out.keep0 (Keeps.drew (Keeps.refl _ _))).keeps k5 hne.symm hg
    have kk5 := (HK.out.trans (Keeps.drew (Keeps.refl _ _))).trans (Keeps.one k5)
    refine hK.out _ _ (k5.cell' (p := ⟨w.heap.size, 3, none⟩) hHeld (by intro q; have q2 : w.heap.size = b := q; omega)) (fun hHeld => ?_)
    clear hK K
    refine norm_ (a' := ?na3003) ?nb3003 ?nc3003
    case nb3003 =>
      simp only [Act.put, List.setIfInBounds_toArray, List.set_cons_zero, List.set_cons_succ]
      rfl
    refine one_ (i := 7) (N := some 30) #[true, true, true, true, true, true, true, true, false, false] rfl rfl (by kernel_rfl) (by decide) (fun K hK => ?_)
    refine goes_ (f := 48) Tryd.func48 (by kernel_rfl) rfl #[.pointer (some ⟨b', 0, none⟩), .string s] (by rfl) rfl rfl (by simp only [List.map_toArray, List.map_cons, List.map_nil]; rfl) ?_
    refine (ris_calls d5 s).mono ?_
    rintro e w6 ⟨rfl, d6, k6⟩
    refine ⟨_, rfl, ?_⟩
    have c6 := c5.keeps k6 hne hib
    have kk6 := kk5.trans (Keeps.two k6)
    refine hK.out _ _ (k6.cell' (p := ⟨w.heap.size, 3, none⟩) hHeld (by intro q; have q2 : w.heap.size = b' := q; omega)) (fun hHeld => ?_)
    clear hK K
    refine norm_ (a' := ?na4007) ?nb4007 ?nc4007
    case nb4007 =>
      simp only [Act.put, List.setIfInBounds_toArray, List.set_cons_zero, List.set_cons_succ]
      rfl
    refine pure_ (i := 8) (N := some 31) (v := ?_) (a' := ?_) #[true, true, true, true, true, true, true, true, true, false] rfl rfl (by kernel_rfl) (fun _ _ _ h => h) (Or.inl ⟨by rfl, ?_⟩) ?_ ?_
    rotate_left
    · intro w'
      go_simp
      with_reducible rfl
    rotate_left
    · simp only [Act.put, List.setIfInBounds_toArray, List.set_cons_zero, List.set_cons_succ]
      rfl
    refine pure_ (i := 9) (N := some 6) (v := ?_) (a' := ?_) #[true, true, true, true, true, true, true, true, true, true] rfl rfl (by kernel_rfl) (fun _ _ _ h => h) (Or.inl ⟨by rfl, ?_⟩) ?_ ?_
    rotate_left
    · intro w'
      go_simp
      with_reducible rfl
    rotate_left
    · simp only [Act.put, List.setIfInBounds_toArray, List.set_cons_zero, List.set_cons_succ]
      rfl
    refine done_ (by kernel_rfl) ?_
    have bi : (st.is (.mark s) == st.is (.mark s)) = true := by simp
    clear hHeld y0 y1 y2 y3 y4
    go_wp2
    go_ret
    have hgn : Cur.gots st ⟨what, least, most, s, t⟩ = st.isTo (.mark s) := Hg.out
    rw [hgn]
    exact ⟨rfl, c6, d6, kk6⟩
  · go_wp2_with (first | (go_at_call 38; refine (Hpick.out _).mono ?_; rintro e w4 ⟨rfl, hw4⟩; rw [hw4] at y0 y1 y2 y3 y4 Hob HK HC HD; clear hw4) | (go_at_call 13; refine (name_calls HC.out).mono ?_; rintro e w5 ⟨rfl, c5, k5⟩; have HC5 := Lib.hid c5; have HD5 := Lib.hid (HD.out.keeps k5 hne.symm hg); have HK5 := Lib.hid (HK.out.trans (Keeps.one k5)); clear c5 k5) | (go_at_call 49; refine (rname_calls HD5.out).mono ?_; rintro e w6 ⟨rfl, d6, k6⟩; have c6 := HC5.out.keeps k6 hne hib; have kk6 := HK5.out.trans (Keeps.two k6); clear k6))
    go_ret
    have hgn : Cur.gots st ⟨what, least, most, s, t⟩ = st.name.2 := Hg.out
    rw [hgn]
    exact ⟨rfl, c6, d6, kk6⟩
  · go_wp2_with (first | (go_at_call 38; refine (Hpick.out _).mono ?_; rintro e w4 ⟨rfl, hw4⟩; rw [hw4] at y0 y1 y2 y3 y4 Hob HK HC HD; clear hw4))
    refine start_ (n := 14) (S := (fun w' => w'.cell? ⟨w.heap.size, 1, none⟩ = some (.int .i64 least) ∧ w'.cell? ⟨w.heap.size, 2, none⟩ = some (.int .i64 most))) (ds := []) #[false, false, false, false, false, false, false, false, false, false, false, false, false, false] (by kernel_rfl) rfl rfl (by exact ⟨y1, y2⟩) (fun hHeld => ?_)
    refine pure_ (i := 0) (N := some 41) (v := ?_) (a' := ?_) #[true, false, false, false, false, false, false, false, false, false, false, false, false, false] rfl rfl (by kernel_rfl) (fun _ _ _ h => h) (Or.inl ⟨by rfl, ?_⟩) ?_ ?_
    rotate_left
    · intro w'
      go_simp
      with_reducible rfl
    rotate_left
    · simp only [Act.put, List.setIfInBounds_toArray, List.set_cons_zero, List.set_cons_succ]
      rfl
    refine pure_ (i := 1) (N := some 42) (v := ?_) (a' := ?_) #[true, true, false, false, false, false, false, false, false, false, false, false, false, false] rfl rfl (by kernel_rfl) (fun _ _ _ h => h) (Or.inl ⟨by rfl, ?_⟩) ?_ ?_
    rotate_left
    · intro w'
      go_simp
      with_reducible rfl
    rotate_left
    · simp only [Act.put, List.setIfInBounds_toArray, List.set_cons_zero, List.set_cons_succ]
      rfl
    refine take_ (i := 2) (N := some 43) (v := ?_) (a' := ?_) #[true, true, true, false, false, false, false, false, false, false, false, false, false, false] rfl rfl (by kernel_rfl) (fun _ _ _ h => h) (Or.inl ⟨by rfl, ?_⟩) hHeld ?_ ?_
    rotate_left
    · intro w' hSw
      obtain ⟨hs0, hs1⟩ := hSw
      go_simp
      with_reducible rfl
    rotate_left
    · simp only [Act.put, List.setIfInBounds_toArray, List.set_cons_zero, List.set_cons_succ]
      rfl
    refine pure_ (i := 3) (N := some 44) (v := ?_) (a' := ?_) #[true, true, true, true, false, false, false, false, false, false, false, false, false, false] rfl rfl (by kernel_rfl) (fun _ _ _ h => h) (Or.inl ⟨by rfl, ?_⟩) ?_ ?_
    rotate_left
    · intro w'
      go_simp
      with_reducible rfl
    rotate_left
    · simp only [Act.put, List.setIfInBounds_toArray, List.set_cons_zero, List.set_cons_succ]
      rfl
    refine take_ (i := 4) (N := some 45) (v := ?_) (a' := ?_) #[true, true, true, true, true, false, false, false, false, false, false, false, false, false] rfl rfl (by kernel_rfl) (fun _ _ _ h => h) (Or.inl ⟨by rfl, ?_⟩) hHeld ?_ ?_
    rotate_left
    · intro w' hSw
      obtain ⟨hs0, hs1⟩ := hSw
      go_simp
      with_reducible rfl
    rotate_left
    · simp only [Act.put, List.setIfInBounds_toArray, List.set_cons_zero, List.set_cons_succ]
      rfl
    refine pure_ (i := 6) (N := some 47) (v := ?_) (a' := ?_) #[true, true, true, true, true, false, true, false, false, false, false, false, false, false] rfl rfl (by kernel_rfl) (fun _ _ _ h => h) (Or.inl ⟨by rfl, ?_⟩) ?_ ?_
    rotate_left
    · intro w'
      go_simp
      with_reducible rfl
    rotate_left
    · simp only [Act.put, List.setIfInBounds_toArray, List.set_cons_zero, List.set_cons_succ]
      rfl
    refine pure_ (i := 7) (N := some 48) (v := ?_) (a' := ?_) #[true, true, true, true, true, false, true, true, false, false, false, false, false, false] rfl rfl (by kernel_rfl) (fun _ _ _ h => h) (Or.inl ⟨by rfl, ?_⟩) ?_ ?_
    rotate_left
    · intro w'
      go_simp
      with_reducible rfl
    rotate_left
    · simp only [Act.put, List.setIfInBounds_toArray, List.set_cons_zero, List.set_cons_succ]
      rfl
    refine take_ (i := 8) (N := some 49) (v := ?_) (a' := ?_) #[true, true, true, true, true, false, true, true, true, false, false, false, false, false] rfl rfl (by kernel_rfl) (fun _ _ _ h => h) (Or.inl ⟨by rfl, ?_⟩) hHeld ?_ ?_
    rotate_left
    · intro w' hSw
      obtain ⟨hs0, hs1⟩ := hSw
      go_simp
      with_reducible rfl
    rotate_left
    · simp only [Act.put, List.setIfInBounds_toArray, List.set_cons_zero, List.set_cons_succ]
      rfl
    refine pure_ (i := 9) (N := some 50) (v := ?_) (a' := ?_) #[true, true, true, true, true, false, true, true, true, true, false, false, false, false] rfl rfl (by kernel_rfl) (fun _ _ _ h => h) (Or.inl ⟨by rfl, ?_⟩) ?_ ?_
    rotate_left
    · intro w'
      go_simp
      with_reducible rfl
    rotate_left
    · simp only [Act.put, List.setIfInBounds_toArray, List.set_cons_zero, List.set_cons_succ]
      rfl
    refine take_ (i := 10) (N := some 51) (v := ?_) (a' := ?_) #[true, true, true, true, true, false, true, true, true, true, true, false, false, false] rfl rfl (by kernel_rfl) (fun _ _ _ h => h) (Or.inl ⟨by rfl, ?_⟩) hHeld ?_ ?_
    rotate_left
    · intro w' hSw
      obtain ⟨hs0, hs1⟩ := hSw
      go_simp
      with_reducible rfl
    rotate_left
    · simp only [Act.put, List.setIfInBounds_toArray, List.set_cons_zero, List.set_cons_succ]
      rfl
    refine one_ (i := 5) (N := some 46) #[true, true, true, true, true, true, true, true, true, true, true, false, false, false] rfl rfl (by kernel_rfl) (by decide) (fun K hK => ?_)
    refine goes_ (f := 14) Tryd.func14 (by kernel_rfl) rfl #[.pointer (some ⟨b, 0, none⟩), .int .i64 least, .int .i64 most] (by rfl) rfl rfl (by simp only [List.map_toArray, List.map_cons, List.map_nil]; rfl) ?_
    refine (num_calls (HC.out.keep0 (Keeps.drew (Keeps.refl _ _))) least most).mono ?_
    rintro e w5 ⟨rfl, c5, k5⟩
    refine ⟨_, rfl, ?_⟩
    have d5 := (HD.out.keep0 (Keeps.drew (Keeps.refl _ _))).keeps k5 hne.symm hg
    have kk5 := (HK.out.trans (Keeps.drew (Keeps.refl _ _))).trans (Keeps.one k5)
    refine hK.out _ _ ⟨k5.cell' (p := ⟨w.heap.size, 1, none⟩) hHeld.1 (by intro q; have q2 : w.heap.size = b := q; omega), k5.cell' (p := ⟨w.heap.size, 2, none⟩) hHeld.2 (by intro q; have q2 : w.heap.size = b := q; omega)⟩ (fun hHeld => ?_)
    clear hK K
    refine norm_ (a' := ?na5005) ?nb5005 ?nc5005
    case nb5005 =>
      simp only [Act.put, List.setIfInBounds_toArray, List.set_cons_zero, List.set_cons_succ]
      rfl
    refine one_ (i := 11) (N := some 52) #[true, true, true, true, true, true, true, true, true, true, true, true, false, false] rfl rfl (by kernel_rfl) (by decide) (fun K hK => ?_)
    refine goes_ (f := 50) Tryd.func50 (by kernel_rfl) rfl #[.pointer (some ⟨b', 0, none⟩), .int .i64 least, .int .i64 most] (by rfl) rfl rfl (by simp only [List.map_toArray, List.map_cons, List.map_nil]; rfl) ?_
    refine (rnum_calls d5 least most).mono ?_
    rintro e w6 ⟨rfl, d6, k6⟩
    refine ⟨_, rfl, ?_⟩
    have c6 := c5.keeps k6 hne hib
    have kk6 := kk5.trans (Keeps.two k6)
    refine hK.out _ _ ⟨k6.cell' (p := ⟨w.heap.size, 1, none⟩) hHeld.1 (by intro q; have q2 : w.heap.size = b' := q; omega), k6.cell' (p := ⟨w.heap.size, 2, none⟩) hHeld.2 (by intro q; have q2 : w.heap.size = b' := q; omega)⟩ (fun hHeld => ?_)
    clear hK K
    refine norm_ (a' := ?na6011) ?nb6011 ?nc6011
    case nb6011 =>
      simp only [Act.put, List.setIfInBounds_toArray, List.set_cons_zero, List.set_cons_succ]
      rfl
    refine pure_ (i := 12) (N := some 53) (v := ?_) (a' := ?_) #[true, true, true, true, true, true, true, true, true, true, true, true, true, false] rfl rfl (by kernel_rfl) (fun _ _ _ h => h) (Or.inl ⟨by rfl, ?_⟩) ?_ ?_
    rotate_left
    · intro w'
      go_simp
      with_reducible rfl
    rotate_left
    · simp only [Act.put, List.setIfInBounds_toArray, List.set_cons_zero, List.set_cons_succ]
      rfl
    refine pure_ (i := 13) (N := some 6) (v := ?_) (a' := ?_) #[true, true, true, true, true, true, true, true, true, true, true, true, true, true] rfl rfl (by kernel_rfl) (fun _ _ _ h => h) (Or.inl ⟨by rfl, ?_⟩) ?_ ?_
    rotate_left
    · intro w'
      go_simp
      with_reducible rfl
    rotate_left
    · simp only [Act.put, List.setIfInBounds_toArray, List.set_cons_zero, List.set_cons_succ]
      rfl
    refine done_ (by kernel_rfl) ?_
    have bi : ((st.num least most).1 == (st.num least most).1) = true := by simp
    clear hHeld y0 y1 y2 y3 y4
    go_wp2
    go_ret
    have hgn : Cur.gots st ⟨what, least, most, s, t⟩ = (st.num least most).2 := Hg.out
    rw [hgn]
    exact ⟨rfl, c6, d6, kk6⟩
  · go_wp2_with (first | (go_at_call 38; refine (Hpick.out _).mono ?_; rintro e w4 ⟨rfl, hw4⟩; rw [hw4] at y0 y1 y2 y3 y4 Hob HK HC HD; clear hw4) | (go_at_call 23; go_loud (have m5 := Mark_calls (HC.out.keep0 ((Keeps.refl (fun _ => False) w4).alloc (.cells #[.string s, .string t] 9))) w4.heap.size 0 [s, t] (strs_two w4 s t _) (by have := HC.out.lt; omega) (by simp) 2; refine m5.mono ?_; clear m5; rintro e w5 ⟨rfl, c5, k5⟩; have HC5 := Lib.hid c5; have HD5 := Lib.hid ((HD.out.keep0 ((Keeps.refl (fun _ => False) w4).alloc (.cells #[.string s, .string t] 9))).keeps k5 hne.symm hg); have HK5 := Lib.hid ((HK.out.alloc (.cells #[.string s, .string t] 9)).trans (Keeps.one k5)); have hb5 := ((Keeps.refl (fun _ => False) w4).alloc (.cells #[.string s, .string t] 9)).heap Hob.out (by simp); have hb6 := k5.heap hb5 (by omega); have z3 : w5.cell? ⟨w.heap.size, 3, none⟩ = some (.string s) := (blk_cell hb6 3).trans rfl; have z4 : w5.cell? ⟨w.heap.size, 4, none⟩ = some (.string t) := (blk_cell hb6 4).trans rfl; have hl5 := HD5.out.lt; clear c5 k5 hb5 hb6)) | (go_at_call 51; go_loud (have m6 := rMark_calls (HD5.out.keep0 ((Keeps.refl (fun _ => False) w5).alloc (.cells #[.string s, .string t] 9))) w5.heap.size 0 [s, t] (strs_two w5 s t _) (by omega) (by simp) 2; refine m6.mono ?_; clear m6; rintro e w6 ⟨rfl, d6, k6⟩; have c6 := (HC5.out.keep0 ((Keeps.refl (fun _ => False) w5).alloc (.cells #[.string s, .string t] 9))).keeps k6 hne hib; have kk6 := (HK5.out.alloc (.cells #[.string s, .string t] 9)).trans (Keeps.two k6); clear k6)))
    go_ret
    have hgn : Cur.gots st ⟨what, least, most, s, t⟩ = st.marks [s, t] := Hg.out
    rw [hgn]
    exact ⟨rfl, c6, d6, kk6⟩
  · go_wp2_with (first | (go_at_call 38; refine (Hpick.out _).mono ?_; rintro e w4 ⟨rfl, hw4⟩; rw [hw4] at y0 y1 y2 y3 y4 Hob HK HC HD; clear hw4) | (go_at_call 12; refine (End_calls HC.out).mono ?_; rintro e w5 ⟨rfl, c5, k5⟩; have HC5 := Lib.hid c5; have HD5 := Lib.hid (HD.out.keeps k5 hne.symm hg); have HK5 := Lib.hid (HK.out.trans (Keeps.one k5)); clear c5 k5) | (go_at_call 52; refine (rEnd_calls HD5.out).mono ?_; rintro e w6 ⟨rfl, d6, k6⟩; have c6 := HC5.out.keeps k6 hne hib; have kk6 := HK5.out.trans (Keeps.two k6); clear k6))
    go_ret
    have hgn : Cur.gots st ⟨what, least, most, s, t⟩ = st.fin := Hg.out
    rw [hgn]
    exact ⟨rfl, c6, d6, kk6⟩
  · go_wp2_with (first | (go_at_call 38; refine (Hpick.out _).mono ?_; rintro e w4 ⟨rfl, hw4⟩; rw [hw4] at y0 y1 y2 y3 y4 Hob HK HC HD; clear hw4) | (go_at_call 18; refine (fail_calls HC.out least).mono ?_; rintro e w5 ⟨rfl, c5, k5⟩; have HC5 := Lib.hid c5; have HD5 := Lib.hid (HD.out.keeps k5 hne.symm hg); have HK5 := Lib.hid (HK.out.trans (Keeps.one k5)); have hb6 := k5.heap Hob.out (by omega); have z1 : w5.cell? ⟨w.heap.size, 1, none⟩ = some (.int .i64 least) := (blk_cell hb6 1).trans rfl; clear c5 k5 hb6) | (go_at_call 53; refine (rfail_calls HD5.out least).mono ?_; rintro e w6 ⟨rfl, d6, k6⟩; have c6 := HC5.out.keeps k6 hne hib; have kk6 := HK5.out.trans (Keeps.two k6); clear k6))
    go_ret
    have hgn : Cur.gots st ⟨what, least, most, s, t⟩ = st.fail least := Hg.out
    rw [hgn]
    exact ⟨rfl, c6, d6, kk6⟩
  · go_wp2_with (first | (go_at_call 38; refine (Hpick.out _).mono ?_; rintro e w4 ⟨rfl, hw4⟩; rw [hw4] at y0 y1 y2 y3 y4 Hob HK HC HD; clear hw4))
    go_ret
    have c6 := HC.out
    have d6 := HD.out
    have kk6 := HK.out
    have hgn : Cur.gots st ⟨what, least, most, s, t⟩ = st := Hg.out
    rw [hgn]
    exact ⟨rfl, c6, d6, kk6⟩

end
end Go.Proofs.YtoibcaoaljglbaaDoor
