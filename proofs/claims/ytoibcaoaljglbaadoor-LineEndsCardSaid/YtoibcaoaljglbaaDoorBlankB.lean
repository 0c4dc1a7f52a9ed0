/-
  The contracts of pick, size, alike (layer 2's law).
-/
import Derived.Test.YtoibcaoaljglbaaDoorBlankA
import Derived.Test.YtoibcaoaljglbaaDoorLawC
namespace Go.Proofs.YtoibcaoaljglbaaDoor
open Go Go.RowKit Go.Proofs.YtoibcaoaljglbaaDoorW.PrintLast
set_option linter.unusedSimpArgs false

/-- a row of things that are got, as it came -/
def GetsAt (w : World) (g off : Nat) (xs : List GetX) : Prop := ∀ i x, xs[i]? = some x →
  w.cell? ⟨g, off + i * 5, none⟩ = some (.int .i64 x.what) ∧ w.cell? ⟨g, off + i * 5 + 1, none⟩ = some (.int .i64 x.least) ∧ w.cell? ⟨g, off + i * 5 + 2, none⟩ = some (.int .i64 x.most) ∧
  w.cell? ⟨g, off + i * 5 + 3, none⟩ = some (.string x.s) ∧ w.cell? ⟨g, off + i * 5 + 4, none⟩ = some (.string x.t)

theorem GetsAt.keeps {S : Nat → Prop} {w w' : World} {g off : Nat} {xs : List GetX} (h : GetsAt w g off xs) (hk : Keeps S w w') (hs : ¬ S g) : GetsAt w' g off xs := by
  intro i x hi
  obtain ⟨h0, h1, h2, h3, h4⟩ := h i x hi
  exact ⟨hk.cell' h0 hs, hk.cell' h1 hs, hk.cell' h2 hs, hk.cell' h3 hs, hk.cell' h4 hs⟩

def GetsFit (xs : List GetX) : Prop := xs.length ≤ 140737488351232 ∧ ∀ x ∈ xs, x.s.size ≤ 140737488351232 ∧ x.t.size ≤ 140737488351232

section
set_option maxRecDepth 100000
set_option maxHeartbeats 4000000

theorem pick_calls (n : Int) (w : World) : Calls Tryd.prog 38 #[.int .i64 n, .int .i64 8] w fun e w' => e = .returned (.int .i64 (pick8 n)) ∧ w = w' := by
  have h1 : -8 < Int.tmod n 8 := Int.lt_tmod_of_pos n (by decide)
  have h2 := Int.tmod_lt_of_pos n (show (0 : Int) < 8 by decide)
  have q1 : IntKind.i64.wrap (Int.tmod n 8 + 8) = Int.tmod n 8 + 8 := IntWalk.i64_in _ (by omega)
  clear h1 h2
  go_enter Tryd.func38, Tryd.ntmps38
  go_wp2
  go_ret
  exact ⟨rfl, rfl⟩

theorem size_calls (g off : Nat) (A : Option Addr) (cap : Nat) (xs : List GetX) (w : World) (hx : GetsAt w g off xs) (hA : xs ≠ [] → A = some ⟨g, off, none⟩) (hf : GetsFit xs) :
    Calls Tryd.prog 16 #[.slice A xs.length cap] w fun e w' => (∃ n : Int, e = .returned (.int .i64 n) ∧ (xs.length : Int) ≤ n ∧ n ≤ 500000000000000) ∧ Keeps (fun _ => False) w w' := by
  have HX := Lib.hid hx
  have HA := Lib.hid hA
  have HF := Lib.hid hf
  clear hx hA hf
  go_enter Tryd.func16, Tryd.ntmps16
  go_wp2
  go_loopw [3, 4] (fun vn vi wr => ∃ (n : Int) (k : Nat), k ≤ xs.length ∧ vn = .int .i64 n ∧ vi = .int .i64 k ∧ Hid ((xs.length : Int) ≤ n ∧ n ≤ 500000000000000) ∧ Hid (Keeps (fun _ => False) w wr)) (fun _ vi _ => xs.length - (intOf vi).toNat)
  case atStart => exact ⟨xs.length, 0, Nat.zero_le _, rfl, rfl, Lib.hid ⟨Int.le_refl _, by have := HF.out.1; omega⟩, Lib.hid (Keeps.refl _ _)⟩
  case round =>
    obtain ⟨n, k, hk, rfl, rfl, HN, HK⟩ := hrel
    by_cases hlt : k < xs.length
    · by_cases hn : n ≤ 3000
      · have hxk : xs[k]? = some xs[k] := by simp [hlt]
        obtain ⟨_, _, _, x3, x4⟩ := (HX.out.keeps HK.out (by simp)) _ _ hxk
        obtain ⟨f3, f4⟩ := HF.out.2 _ (List.getElem_mem hlt)
        obtain rfl := HA.out (List.length_pos_iff.1 (by omega))
        clear hxk
        generalize xs[k] = x at *
        have hn0 := HN.out.1
        have hlen := HF.out.1
        have q1 : IntKind.i64.wrap (n + x.s.size) = n + x.s.size := IntWalk.i64_in _ (by omega)
        have q2 : IntKind.i64.wrap (n + x.s.size + x.t.size) = n + x.s.size + x.t.size := IntWalk.i64_in _ (by omega)
        have HN2 := Lib.hid (show (xs.length : Int) ≤ n + x.s.size + x.t.size ∧ n + x.s.size + x.t.size ≤ 500000000000000 by omega)
        have HD := Lib.hid (HK.out.drewN)
        clear f3 f4 hn0
        go_wp2
        go_quiet (fail)
        go_wp2
        go_roundw
        case rel => exact ⟨_, k + 1, by omega, rfl, by go_num, HN2, Lib.hid (HD.out _)⟩
        case measure => simp [intOf]; omega
      · go_wp2
        go_ret
        exact ⟨⟨n, rfl, HN.out⟩, HK.out⟩
    · have hkl : k = xs.length := by omega
      go_wp2
      go_ret
      exact ⟨⟨n, rfl, HN.out⟩, HK.out⟩

/-- what a call of alike leaves -/
def AlikePost (w : World) (b ib b' ib' : Nat) (c d : Cur) (e : Ending) (w' : World) : Prop :=
  e = .returned (.bool true) ∧ CS w' b ib c ∧ CS w' b' ib' d ∧ Keeps (fun k => k = b ∨ k = b') w w'

theorem Keeps.one {w w' : World} {b b' : Nat} (h : Keeps (fun k => k = b) w w') : Keeps (fun k => k = b ∨ k = b') w w' := h.mono (fun _ _ q => Or.inl q)
theorem Keeps.two {w w' : World} {b b' : Nat} (h : Keeps (fun k => k = b') w w') : Keeps (fun k => k = b ∨ k = b') w w' := h.mono (fun _ _ q => Or.inr q)
theorem Keeps.none {w w' : World} {S : Nat → Prop} (h : Keeps (fun _ => False) w w') : Keeps S w w' := h.mono (fun _ _ q => q.elim)

theorem strs_two (w : World) (s t : ByteArray) (ty : TypeId) : StrsAt (w.alloc (.cells #[.string s, .string t] ty)) w.heap.size 0 [s, t] := by
  intro j x hj
  match j, hj with
  | 0, hj =>
    simp at hj
    subst hj
    exact (blk_cell (blk_new w (.cells #[.string s, .string t] ty)) 0).trans rfl
  | 1, hj =>
    simp at hj
    subst hj
    exact (blk_cell (blk_new w (.cells #[.string s, .string t] ty)) 1).trans rfl

theorem alike_calls {w : World} {b ib b' ib' : Nat} {c d : Cur} (hc : CS w b ib c) (hd : CS w b' ib' d) (hne : b ≠ b') (hib : ib ≠ b') (hib' : ib' ≠ b) (h : AC c d) (x : GetX) :
    Calls Tryd.prog 17 #[.pointer (some ⟨b, 0, none⟩), .pointer (some ⟨b', 0, none⟩), .agg #[.int .i64 x.what, .int .i64 x.least, .int .i64 x.most, .string x.s, .string x.t]] w (AlikePost w b ib b' ib' (c.gets x) (d.gets x)) := by
  have hlt := hc.lt
  have hlt' := hd.lt
  have H := Lib.hid h
  obtain ⟨what, least, most, s, t⟩ := x
  have hpk := pick8_range what
  have Hgc := Lib.hid (show Cur.gets c ⟨what, least, most, s, t⟩ = (if pick8 what = 0 then c.isTo (.name s) else if pick8 what = 1 then c.isTo (.mark s) else if pick8 what = 2 then c.name.2 else if pick8 what = 3 then (c.num least most).2 else if pick8 what = 4 then c.marks [s, t] else if pick8 what = 5 then c.fin else c) from rfl)
  have Hgd := Lib.hid (show Cur.gets d ⟨what, least, most, s, t⟩ = (if pick8 what = 0 then d.isTo (.name s) else if pick8 what = 1 then d.isTo (.mark s) else if pick8 what = 2 then d.name.2 else if pick8 what = 3 then (d.num least most).2 else if pick8 what = 4 then d.marks [s, t] else if pick8 what = 5 then d.fin else d) from rfl)
  have Hpick := Lib.hid (pick_calls what)
  have Hob := Lib.hid (blk_new w (.cells #[.int .i64 what, .int .i64 least, .int .i64 most, .string s, .string t] 41))
  have Kob := Lib.hid ((Keeps.refl (fun k => k = b ∨ k = b') w).alloc (.cells #[.int .i64 what, .int .i64 least, .int .i64 most, .string s, .string t] 41))
  have Ec := Lib.hid (Err_calls (hc.keep0 ((Keeps.refl (fun _ => False) w).alloc (.cells #[.int .i64 what, .int .i64 least, .int .i64 most, .string s, .string t] 41))))
  have HC := Lib.hid (hc.keep0 ((Keeps.refl (fun _ => False) w).alloc (.cells #[.int .i64 what, .int .i64 least, .int .i64 most, .string s, .string t] 41)))
  have HD := Lib.hid (hd.keep0 ((Keeps.refl (fun _ => False) w).alloc (.cells #[.int .i64 what, .int .i64 least, .int .i64 most, .string s, .string t] 41)))
  have be := h.err
  have bee : (c.err.2.2 != d.err.2.2) = false := by rw [be]; simp
  have bm : c.more = d.more := h.more
  clear be
  have bmm : (c.more == d.more) = true := by rw [bm]; simp
  clear bm hc hd h
  generalize hpn : pick8 what = pn at *
  clear hpn
  have hcases : pn = 0 ∨ pn = 1 ∨ pn = 2 ∨ pn = 3 ∨ pn = 4 ∨ pn = 5 ∨ pn = 6 ∨ pn = 7 := by omega
  clear hpk
  have Hne := Lib.hid hne
  go_enter Tryd.func17, Tryd.ntmps17
  rcases hcases with rfl | rfl | rfl | rfl | rfl | rfl | rfl | rfl
  · go_wp2_with (first | (go_at_call 38; refine (Hpick.out _).mono ?_; rintro e w4 ⟨rfl, rfl⟩) | (go_at_call 10; have _t0 := D1.out; refine (Err_calls D1.out).mono ?_; rintro e w2 ⟨rfl, k2⟩; have HC := Lib.hid (C1.out.keep0 k2); have HD := Lib.hid (D1.out.keep0 k2); have HK := Lib.hid (K1.out.trans (Keeps.none k2)); have hb2 := k2.heap Hb1.out (by simp); have y0 : w2.cell? ⟨w.heap.size, 0, none⟩ = some (.int .i64 what) := (blk_cell hb2 0).trans rfl; have y1 : w2.cell? ⟨w.heap.size, 1, none⟩ = some (.int .i64 least) := (blk_cell hb2 1).trans rfl; have y2 : w2.cell? ⟨w.heap.size, 2, none⟩ = some (.int .i64 most) := (blk_cell hb2 2).trans rfl; have y3 : w2.cell? ⟨w.heap.size, 3, none⟩ = some (.string s) := (blk_cell hb2 3).trans rfl; have y4 : w2.cell? ⟨w.heap.size, 4, none⟩ = some (.string t) := (blk_cell hb2 4).trans rfl; have Hb2 := Lib.hid hb2; have Mc := Lib.hid (more_calls HC.out); have Md := Lib.hid (more_calls HD.out); clear k2 D1 C1 K1 Hb1 hb2) | (go_at_call 10; refine Ec.out.mono ?_; rintro e w1 ⟨rfl, k1⟩; have C1 := Lib.hid (HC.out.keep0 k1); have D1 := Lib.hid (HD.out.keep0 k1); have K1 := Lib.hid (Kob.out.trans (Keeps.none k1)); have Hb1 := Lib.hid (k1.heap Hob.out (by simp)); clear k1 HC HD Ec) | (go_at_call 11; first | (refine Mc.out.mono ?_; rintro e w3 ⟨rfl, rfl⟩; clear Mc) | (refine Md.out.mono ?_; rintro e w3 ⟨rfl, rfl⟩; clear Md)))
    have hbs : b ≠ w.heap.size ∧ b' ≠ w.heap.size := by omega
    refine start_ (n := 10) (S := (fun w' => w'.cell? ⟨w.heap.size, 3, none⟩ = some (.string s))) (ds := []) #[false, false, false, false, false, false, false, false, false, false] (by kernel_rfl) rfl rfl (by exact y3) (fun hHeld => ?_)
    refine pure_ (i := 0) (N := some 40) (v := ?_) (a' := ?_) #[true, false, false, false, false, false, false, false, false, false] rfl rfl (by kernel_rfl) (fun _ _ _ h => h) (Or.inl ⟨by rfl, ?_⟩) ?_ ?_
    rotate_left
    · intro w'
      go_simp
      with_reducible rfl
    rotate_left
    · simp only [Act.put, List.setIfInBounds_toArray, List.set_cons_zero, List.set_cons_succ]
      rfl
    refine pure_ (i := 1) (N := some 41) (v := ?_) (a' := ?_) #[true, true, false, false, false, false, false, false, false, false] rfl rfl (by kernel_rfl) (fun _ _ _ h => h) (Or.inl ⟨by rfl, ?_⟩) ?_ ?_
    rotate_left
    · intro w'
      go_simp
      with_reducible rfl
    rotate_left
    · simp only [Act.put, List.setIfInBounds_toArray, List.set_cons_zero, List.set_cons_succ]
      rfl
    refine take_ (i := 2) (N := some 42) (v := ?_) (a' := ?_) #[true, true, true, false, false, false, false, false, false, false] rfl rfl (by kernel_rfl) (fun _ _ _ h => h) (Or.inl ⟨by rfl, ?_⟩) hHeld ?_ ?_
    rotate_left
    · intro w' hSw
      have hs0 := hSw
      go_simp
      with_reducible rfl
    rotate_left
    · simp only [Act.put, List.setIfInBounds_toArray, List.set_cons_zero, List.set_cons_succ]
      rfl
    refine pure_ (i := 4) (N := some 44) (v := ?_) (a' := ?_) #[true, true, true, false, true, false, false, false, false, false] rfl rfl (by kernel_rfl) (fun _ _ _ h => h) (Or.inl ⟨by rfl, ?_⟩) ?_ ?_
    rotate_left
    · intro w'
      go_simp
      with_reducible rfl
    rotate_left
    · simp only [Act.put, List.setIfInBounds_toArray, List.set_cons_zero, List.set_cons_succ]
      rfl
    refine pure_ (i := 5) (N := some 45) (v := ?_) (a' := ?_) #[true, true, true, false, true, true, false, false, false, false] rfl rfl (by kernel_rfl) (fun _ _ _ h => h) (Or.inl ⟨by rfl, ?_⟩) ?_ ?_
    rotate_left
    · intro w'
      go_simp
      with_reducible rfl
    rotate_left
    · simp only [Act.put, List.setIfInBounds_toArray, List.set_cons_zero, List.set_cons_succ]
      rfl
    refine take_ (i := 6) (N := some 46) (v := ?_) (a' := ?_) #[true, true, true, false, true, true, true, false, false, false] rfl rfl (by kernel_rfl) (fun _ _ _ h => h) (Or.inl ⟨by rfl, ?_⟩) hHeld ?_ ?_
    rotate_left
    · intro w' hSw
      have hs0 := hSw
      go_simp
      with_reducible rfl
    rotate_left
    · simp only [Act.put, List.setIfInBounds_toArray, List.set_cons_zero, List.set_cons_succ]
      rfl
    refine one_ (i := 3) (N := some 43) #[true, true, true, true, true, true, true, false, false, false] rfl rfl (by kernel_rfl) (by decide) (fun K hK => ?_)
    refine goes_ (f := 39) Tryd.func39 (by kernel_rfl) rfl #[.pointer (some ⟨b, 0, none⟩), .string s] (by rfl) rfl rfl (by simp only [List.map_toArray, List.map_cons, List.map_nil]; rfl) ?_
    refine (key_calls (HC.out.keep0 (Keeps.drew (Keeps.refl _ _))) s).mono ?_
    rintro e w5 ⟨rfl, c5, k5⟩
    refine ⟨_, rfl, ?_⟩
    have d5 := (HD.out.keep0 (Keeps.drew (Keeps.refl _ _))).keeps k5 hne.symm hib'
    have kk5 := (HK.out.trans (Keeps.drew (Keeps.refl _ _))).trans (Keeps.one k5)
    refine hK.out _ _ (k5.cell' (p := ⟨w.heap.size, 3, none⟩) hHeld (by intro q; have q2 : w.heap.size = b := q; omega)) (fun hHeld => ?_)
    clear hK K
    refine norm_ (a' := ?na1003) ?nb1003 ?nc1003
    case nb1003 =>
      simp only [Act.put, List.setIfInBounds_toArray, List.set_cons_zero, List.set_cons_succ]
      rfl
    refine one_ (i := 7) (N := some 47) #[true, true, true, true, true, true, true, true, false, false] rfl rfl (by kernel_rfl) (by decide) (fun K hK => ?_)
    refine goes_ (f := 39) Tryd.func39 (by kernel_rfl) rfl #[.pointer (some ⟨b', 0, none⟩), .string s] (by rfl) rfl rfl (by simp only [List.map_toArray, List.map_cons, List.map_nil]; rfl) ?_
    refine (key_calls d5 s).mono ?_
    rintro e w6 ⟨rfl, d6, k6⟩
    refine ⟨_, rfl, ?_⟩
    have c6 := c5.keeps k6 hne hib
    have kk6 := kk5.trans (Keeps.two k6)
    refine hK.out _ _ (k6.cell' (p := ⟨w.heap.size, 3, none⟩) hHeld (by intro q; have q2 : w.heap.size = b' := q; omega)) (fun hHeld => ?_)
    clear hK K
    refine norm_ (a' := ?na2007) ?nb2007 ?nc2007
    case nb2007 =>
      simp only [Act.put, List.setIfInBounds_toArray, List.set_cons_zero, List.set_cons_succ]
      rfl
    refine pure_ (i := 8) (N := some 48) (v := ?_) (a' := ?_) #[true, true, true, true, true, true, true, true, true, false] rfl rfl (by kernel_rfl) (fun _ _ _ h => h) (Or.inl ⟨by rfl, ?_⟩) ?_ ?_
    rotate_left
    · intro w'
      go_simp
      with_reducible rfl
    rotate_left
    · simp only [Act.put, List.setIfInBounds_toArray, List.set_cons_zero, List.set_cons_succ]
      rfl
    refine pure_ (i := 9) (N := some 6) (v := ?_) (a' := ?_) #[true, true, true, true, true, true, true, true, true, true] rfl rfl (by kernel_rfl) (fun _ _ _ h => h) (Or.inl ⟨by rfl, ?_⟩) ?_ ?_
    rotate_left
    · intro w'
      go_simp
      with_reducible rfl
    rotate_left
    · simp only [Act.put, List.setIfInBounds_toArray, List.set_cons_zero, List.set_cons_succ]
      rfl
    refine done_ (by kernel_rfl) ?_
    have bi : (c.is (.name s) == d.is (.name s)) = true := by rw [H.out.is (.name s)]; simp
    clear hHeld y0 y1 y2 y3 y4
    go_wp2
    go_ret
    refine ⟨(by show Ending.returned (.bool (c.is (.name s) == d.is (.name s))) = _; rw [bi]), ?_, ?_, kk6⟩
    · rw [show Cur.gets c ⟨what, least, most, s, t⟩ = c.isTo (.name s) from Hgc.out]
      exact c6
    · rw [show Cur.gets d ⟨what, least, most, s, t⟩ = d.isTo (.name s) from Hgd.out]
      exact d6
  · go_wp2_with (first | (go_at_call 38; refine (Hpick.out _).mono ?_; rintro e w4 ⟨rfl, rfl⟩) | (go_at_call 10; have _t0 := D1.out; refine (Err_calls D1.out).mono ?_; rintro e w2 ⟨rfl, k2⟩; have HC := Lib.hid (C1.out.keep0 k2); have HD := Lib.hid (D1.out.keep0 k2); have HK := Lib.hid (K1.out.trans (Keeps.none k2)); have hb2 := k2.heap Hb1.out (by simp); have y0 : w2.cell? ⟨w.heap.size, 0, none⟩ = some (.int .i64 what) := (blk_cell hb2 0).trans rfl; have y1 : w2.cell? ⟨w.heap.size, 1, none⟩ = some (.int .i64 least) := (blk_cell hb2 1).trans rfl; have y2 : w2.cell? ⟨w.heap.size, 2, none⟩ = some (.int .i64 most) := (blk_cell hb2 2).trans rfl; have y3 : w2.cell? ⟨w.heap.size, 3, none⟩ = some (.string s) := (blk_cell hb2 3).trans rfl; have y4 : w2.cell? ⟨w.heap.size, 4, none⟩ = some (.string t) := (blk_cell hb2 4).trans rfl; have Hb2 := Lib.hid hb2; have Mc := Lib.hid (more_calls HC.out); have Md := Lib.hid (more_calls HD.out); clear k2 D1 C1 K1 Hb1 hb2) | (go_at_call 10; refine Ec.out.mono ?_; rintro e w1 ⟨rfl, k1⟩; have C1 := Lib.hid (HC.out.keep0 k1); have D1 := Lib.hid (HD.out.keep0 k1); have K1 := Lib.hid (Kob.out.trans (Keeps.none k1)); have Hb1 := Lib.hid (k1.heap Hob.out (by simp)); clear k1 HC HD Ec) | (go_at_call 11; first | (refine Mc.out.mono ?_; rintro e w3 ⟨rfl, rfl⟩; clear Mc) | (refine Md.out.mono ?_; rintro e w3 ⟨rfl, rfl⟩; clear Md)))
    have hbs : b ≠ w.heap.size ∧ b' ≠ w.heap.size := by omega
    refine start_ (n := 10) (S := (fun w' => w'.cell? ⟨w.heap.size, 3, none⟩ = some (.string s))) (ds := []) #[false, false, false, false, false, false, false, false, false, false] (by kernel_rfl) rfl rfl (by exact y3) (fun hHeld => ?_)
    refine pure_ (i := 0) (N := some 51) (v := ?_) (a' := ?_) #[true, false, false, false, false, false, false, false, false, false] rfl rfl (by kernel_rfl) (fun _ _ _ h => h) (Or.inl ⟨by rfl, ?_⟩) ?_ ?_
    rotate_left
    · intro w'
      go_simp
      with_reducible rfl
    rotate_left
    · simp only [Act.put, List.setIfInBounds_toArray, List.set_cons_zero, List.set_cons_succ]
      rfl
    refine pure_ (i := 1) (N := some 52) (v := ?_) (a' := ?_) #[true, true, false, false, false, false, false, false, false, false] rfl rfl (by kernel_rfl) (fun _ _ _ h => h) (Or.inl ⟨by rfl, ?_⟩) ?_ ?_
    rotate_left
    · intro w'
      go_simp
      with_reducible rfl
    rotate_left
    · simp only [Act.put, List.setIfInBounds_toArray, List.set_cons_zero, List.set_cons_succ]
      rfl
    refine take_ (i := 2) (N := some 53) (v := ?_) (a' := ?_) #[true, true, true, false, false, false, false, false, false, false] rfl rfl (by kernel_rfl) (fun _ _ _ h => h) (Or.inl ⟨by rfl, ?_⟩) hHeld ?_ ?_
    rotate_left
    · intro w' hSw
      have hs0 := hSw
      go_simp
      with_reducible rfl
    rotate_left
    · simp only [Act.put, List.setIfInBounds_toArray, List.set_cons_zero, List.set_cons_succ]
      rfl
    refine pure_ (i := 4) (N := some 55) (v := ?_) (a' := ?_) #[true, true, true, false, true, false, false, false, false, false] rfl rfl (by kernel_rfl) (fun _ _ _ h => h) (Or.inl ⟨by rfl, ?_⟩) ?_ ?_
    rotate_left
    · intro w'
      go_simp
      with_reducible rfl
    rotate_left
    · simp only [Act.put, List.setIfInBounds_toArray, List.set_cons_zero, List.set_cons_succ]
      rfl
    refine pure_ (i := 5) (N := some 56) (v := ?_) (a' := ?_) #[true, true, true, false, true, true, false, false, false, false] rfl rfl (by kernel_rfl) (fun _ _ _ h => h) (Or.inl ⟨by rfl, ?_⟩) ?_ ?_
    rotate_left
    · intro w'
      go_simp
      with_reducible rfl
    rotate_left
    · simp only [Act.put, List.setIfInBounds_toArray, List.set_cons_zero, List.set_cons_succ]
      rfl
    refine take_ (i := 6) (N := some 57) (v := ?_) (a' := ?_) #[true, true, true, false, true, true, true, false, false, false] rfl rfl (by kernel_rfl) (fun _ _ _ h => h) (Or.inl ⟨by rfl, ?_⟩) hHeld ?_ ?_
    rotate_left
    · intro w' hSw
      have hs0 := hSw
      go_simp
      with_reducible rfl
    rotate_left
    · simp only [Act.put, List.setIfInBounds_toArray, List.set_cons_zero, List.set_cons_succ]
      rfl
    refine one_ (i := 3) (N := some 54) #[true, true, true, true, true, true, true, false, false, false] rfl rfl (by kernel_rfl) (by decide) (fun K hK => ?_)
    refine goes_ (f := 15) Tryd.func15 (by kernel_rfl) rfl #[.pointer (some ⟨b, 0, none⟩), .string s] (by rfl) rfl rfl (by simp only [List.map_toArray, List.map_cons, List.map_nil]; rfl) ?_
    refine (Is_calls (HC.out.keep0 (Keeps.drew (Keeps.refl _ _))) s).mono ?_
    rintro e w5 ⟨rfl, c5, k5⟩
    refine ⟨_, rfl, ?_⟩
    have d5 := (HD.out.keep0 (Keeps.drew (Keeps.refl _ _))).keeps k5 hne.symm hib'
    have kk5 := (HK.out.trans (Keeps.drew (Keeps.refl _ _))).trans (Keeps.one k5)
    refine hK.out _ _ (k5.cell' (p := ⟨w.heap.size, 3, none⟩) hHeld (by intro q; have q2 : w.heap.size = b := q; omega)) (fun hHeld => ?_)
    clear hK K
    refine norm_ (a' := ?na3003) ?nb3003 ?nc3003
    case nb3003 =>
      simp only [Act.put, List.setIfInBounds_toArray, List.set_cons_zero, List.set_cons_succ]
      rfl
    refine one_ (i := 7) (N := some 58) #[true, true, true, true, true, true, true, true, false, false] rfl rfl (by kernel_rfl) (by decide) (fun K hK => ?_)
    refine goes_ (f := 15) Tryd.func15 (by kernel_rfl) rfl #[.pointer (some ⟨b', 0, none⟩), .string s] (by rfl) rfl rfl (by simp only [List.map_toArray, List.map_cons, List.map_nil]; rfl) ?_
    refine (Is_calls d5 s).mono ?_
    rintro e w6 ⟨rfl, d6, k6⟩
    refine ⟨_, rfl, ?_⟩
    have c6 := c5.keeps k6 hne hib
    have kk6 := kk5.trans (Keeps.two k6)
    refine hK.out _ _ (k6.cell' (p := ⟨w.heap.size, 3, none⟩) hHeld (by intro q; have q2 : w.heap.size = b' := q; omega)) (fun hHeld => ?_)
    clear hK K
    refine norm_ (a' := ?na4007) ?nb4007 ?nc4007
    case nb4007 =>
      simp only [Act.put, List.setIfInBounds_toArray, List.set_cons_zero, List.set_cons_succ]
      rfl
    refine pure_ (i := 8) (N := some 59) (v := ?_) (a' := ?_) #[true, true, true, true, true, true, true, true, true, false] rfl rfl (by kernel_rfl) (fun _ _ _ h => h) (Or.inl ⟨by rfl, ?_⟩) ?_ ?_
    rotate_left
    · intro w'
      go_simp
      with_reducible rfl
    rotate_left
    · simp only [Act.put, List.setIfInBounds_toArray, List.set_cons_zero, List.set_cons_succ]
      rfl
    refine pure_ (i := 9) (N := some 6) (v := ?_) (a' := ?_) #[true, true, true, true, true, true, true, true, true, true] rfl rfl (by kernel_rfl) (fun _ _ _ h => h) (Or.inl ⟨by rfl, ?_⟩) ?_ ?_
    rotate_left
    · intro w'
      go_simp
      with_reducible rfl
    rotate_left
    · simp only [Act.put, List.setIfInBounds_toArray, List.set_cons_zero, List.set_cons_succ]
      rfl
    refine done_ (by kernel_rfl) ?_
    have bi : (c.is (.mark s) == d.is (.mark s)) = true := by rw [H.out.is (.mark s)]; simp
    clear hHeld y0 y1 y2 y3 y4
    go_wp2
    go_ret
    refine ⟨(by show Ending.returned (.bool (c.is (.mark s) == d.is (.mark s))) = _; rw [bi]), ?_, ?_, kk6⟩
    · rw [show Cur.gets c ⟨what, least, most, s, t⟩ = c.isTo (.mark s) from Hgc.out]
      exact c6
    · rw [show Cur.gets d ⟨what, least, most, s, t⟩ = d.isTo (.mark s) from Hgd.out]
      exact d6
  · go_wp2_with (first | (go_at_call 38; refine (Hpick.out _).mono ?_; rintro e w4 ⟨rfl, rfl⟩) | (go_at_call 10; have _t0 := D1.out; refine (Err_calls D1.out).mono ?_; rintro e w2 ⟨rfl, k2⟩; have HC := Lib.hid (C1.out.keep0 k2); have HD := Lib.hid (D1.out.keep0 k2); have HK := Lib.hid (K1.out.trans (Keeps.none k2)); have hb2 := k2.heap Hb1.out (by simp); have y0 : w2.cell? ⟨w.heap.size, 0, none⟩ = some (.int .i64 what) := (blk_cell hb2 0).trans rfl; have y1 : w2.cell? ⟨w.heap.size, 1, none⟩ = some (.int .i64 least) := (blk_cell hb2 1).trans rfl; have y2 : w2.cell? ⟨w.heap.size, 2, none⟩ = some (.int .i64 most) := (blk_cell hb2 2).trans rfl; have y3 : w2.cell? ⟨w.heap.size, 3, none⟩ = some (.string s) := (blk_cell hb2 3).trans rfl; have y4 : w2.cell? ⟨w.heap.size, 4, none⟩ = some (.string t) := (blk_cell hb2 4).trans rfl; have Hb2 := Lib.hid hb2; have Mc := Lib.hid (more_calls HC.out); have Md := Lib.hid (more_calls HD.out); clear k2 D1 C1 K1 Hb1 hb2) | (go_at_call 10; refine Ec.out.mono ?_; rintro e w1 ⟨rfl, k1⟩; have C1 := Lib.hid (HC.out.keep0 k1); have D1 := Lib.hid (HD.out.keep0 k1); have K1 := Lib.hid (Kob.out.trans (Keeps.none k1)); have Hb1 := Lib.hid (k1.heap Hob.out (by simp)); clear k1 HC HD Ec) | (go_at_call 11; first | (refine Mc.out.mono ?_; rintro e w3 ⟨rfl, rfl⟩; clear Mc) | (refine Md.out.mono ?_; rintro e w3 ⟨rfl, rfl⟩; clear Md)) | (go_at_call 13; have _t0 := HD5.out; refine (name_calls HD5.out).mono ?_; rintro e w6 ⟨rfl, d6, k6⟩; have c6 := HC5.out.keeps k6 hne hib; have kk6 := HK5.out.trans (Keeps.two k6); clear k6) | (go_at_call 13; refine (name_calls HC.out).mono ?_; rintro e w5 ⟨rfl, c5, k5⟩; have HC5 := Lib.hid c5; have HD5 := Lib.hid (HD.out.keeps k5 hne.symm hib'); have HK5 := Lib.hid (HK.out.trans (Keeps.one k5)); clear c5 k5))
    go_ret
    refine ⟨(by show Ending.returned (.bool (c.name.1.toList == d.name.1.toList)) = _; rw [H.out.name.1]; simp), ?_, ?_, kk6⟩
    · rw [show Cur.gets c ⟨what, least, most, s, t⟩ = c.name.2 from Hgc.out]
      exact c6
    · rw [show Cur.gets d ⟨what, least, most, s, t⟩ = d.name.2 from Hgd.out]
      exact d6
  · go_wp2_with (first | (go_at_call 38; refine (Hpick.out _).mono ?_; rintro e w4 ⟨rfl, rfl⟩) | (go_at_call 10; have _t0 := D1.out; refine (Err_calls D1.out).mono ?_; rintro e w2 ⟨rfl, k2⟩; have HC := Lib.hid (C1.out.keep0 k2); have HD := Lib.hid (D1.out.keep0 k2); have HK := Lib.hid (K1.out.trans (Keeps.none k2)); have hb2 := k2.heap Hb1.out (by simp); have y0 : w2.cell? ⟨w.heap.size, 0, none⟩ = some (.int .i64 what) := (blk_cell hb2 0).trans rfl; have y1 : w2.cell? ⟨w.heap.size, 1, none⟩ = some (.int .i64 least) := (blk_cell hb2 1).trans rfl; have y2 : w2.cell? ⟨w.heap.size, 2, none⟩ = some (.int .i64 most) := (blk_cell hb2 2).trans rfl; have y3 : w2.cell? ⟨w.heap.size, 3, none⟩ = some (.string s) := (blk_cell hb2 3).trans rfl; have y4 : w2.cell? ⟨w.heap.size, 4, none⟩ = some (.string t) := (blk_cell hb2 4).trans rfl; have Hb2 := Lib.hid hb2; have Mc := Lib.hid (more_calls HC.out); have Md := Lib.hid (more_calls HD.out); clear k2 D1 C1 K1 Hb1 hb2) | (go_at_call 10; refine Ec.out.mono ?_; rintro e w1 ⟨rfl, k1⟩; have C1 := Lib.hid (HC.out.keep0 k1); have D1 := Lib.hid (HD.out.keep0 k1); have K1 := Lib.hid (Kob.out.trans (Keeps.none k1)); have Hb1 := Lib.hid (k1.heap Hob.out (by simp)); clear k1 HC HD Ec) | (go_at_call 11; first | (refine Mc.out.mono ?_; rintro e w3 ⟨rfl, rfl⟩; clear Mc) | (refine Md.out.mono ?_; rintro e w3 ⟨rfl, rfl⟩; clear Md)))
    have hbs : b ≠ w.heap.size ∧ b' ≠ w.heap.size := by omega
    refine start_ (n := 14) (S := (fun w' => w'.cell? ⟨w.heap.size, 1, none⟩ = some (.int .i64 least) ∧ w'.cell? ⟨w.heap.size, 2, none⟩ = some (.int .i64 most))) (ds := []) #[false, false, false, false, false, false, false, false, false, false, false, false, false, false] (by kernel_rfl) rfl rfl (by exact ⟨y1, y2⟩) (fun hHeld => ?_)
    refine pure_ (i := 0) (N := some 69) (v := ?_) (a' := ?_) #[true, false, false, false, false, false, false, false, false, false, false, false, false, false] rfl rfl (by kernel_rfl) (fun _ _ _ h => h) (Or.inl ⟨by rfl, ?_⟩) ?_ ?_
    rotate_left
    · intro w'
      go_simp
      with_reducible rfl
    rotate_left
    · simp only [Act.put, List.setIfInBounds_toArray, List.set_cons_zero, List.set_cons_succ]
      rfl
    refine pure_ (i := 1) (N := some 70) (v := ?_) (a' := ?_) #[true, true, false, false, false, false, false, false, false, false, false, false, false, false] rfl rfl (by kernel_rfl) (fun _ _ _ h => h) (Or.inl ⟨by rfl, ?_⟩) ?_ ?_
    rotate_left
    · intro w'
      go_simp
      with_reducible rfl
    rotate_left
    · simp only [Act.put, List.setIfInBounds_toArray, List.set_cons_zero, List.set_cons_succ]
      rfl
    refine take_ (i := 2) (N := some 71) (v := ?_) (a' := ?_) #[true, true, true, false, false, false, false, false, false, false, false, false, false, false] rfl rfl (by kernel_rfl) (fun _ _ _ h => h) (Or.inl ⟨by rfl, ?_⟩) hHeld ?_ ?_
    rotate_left
    · intro w' hSw
      obtain ⟨hs0, hs1⟩ := hSw
      go_simp
      with_reducible rfl
    rotate_left
    · simp only [Act.put, List.setIfInBounds_toArray, List.set_cons_zero, List.set_cons_succ]
      rfl
    refine pure_ (i := 3) (N := some 72) (v := ?_) (a' := ?_) #[true, true, true, true, false, false, false, false, false, false, false, false, false, false] rfl rfl (by kernel_rfl) (fun _ _ _ h => h) (Or.inl ⟨by rfl, ?_⟩) ?_ ?_
    rotate_left
    · intro w'
      go_simp
      with_reducible rfl
    rotate_left
    · simp only [Act.put, List.setIfInBounds_toArray, List.set_cons_zero, List.set_cons_succ]
      rfl
    refine take_ (i := 4) (N := some 73) (v := ?_) (a' := ?_) #[true, true, true, true, true, false, false, false, false, false, false, false, false, false] rfl rfl (by kernel_rfl) (fun _ _ _ h => h) (Or.inl ⟨by rfl, ?_⟩) hHeld ?_ ?_
    rotate_left
    · intro w' hSw
      obtain ⟨hs0, hs1⟩ := hSw
      go_simp
      with_reducible rfl
    rotate_left
    · simp only [Act.put, List.setIfInBounds_toArray, List.set_cons_zero, List.set_cons_succ]
      rfl
    refine pure_ (i := 6) (N := some 75) (v := ?_) (a' := ?_) #[true, true, true, true, true, false, true, false, false, false, false, false, false, false] rfl rfl (by kernel_rfl) (fun _ _ _ h => h) (Or.inl ⟨by rfl, ?_⟩) ?_ ?_
    rotate_left
    · intro w'
      go_simp
      with_reducible rfl
    rotate_left
    · simp only [Act.put, List.setIfInBounds_toArray, List.set_cons_zero, List.set_cons_succ]
      rfl
    refine pure_ (i := 7) (N := some 76) (v := ?_) (a' := ?_) #[true, true, true, true, true, false, true, true, false, false, false, false, false, false] rfl rfl (by kernel_rfl) (fun _ _ _ h => h) (Or.inl ⟨by rfl, ?_⟩) ?_ ?_
    rotate_left
    · intro w'
      go_simp
      with_reducible rfl
    rotate_left
    · simp only [Act.put, List.setIfInBounds_toArray, List.set_cons_zero, List.set_cons_succ]
      rfl
    refine take_ (i := 8) (N := some 77) (v := ?_) (a' := ?_) #[true, true, true, true, true, false, true, true, true, false, false, false, false, false] rfl rfl (by kernel_rfl) (fun _ _ _ h => h) (Or.inl ⟨by rfl, ?_⟩) hHeld ?_ ?_
    rotate_left
    · intro w' hSw
      obtain ⟨hs0, hs1⟩ := hSw
      go_simp
      with_reducible rfl
    rotate_left
    · simp only [Act.put, List.setIfInBounds_toArray, List.set_cons_zero, List.set_cons_succ]
      rfl
    refine pure_ (i := 9) (N := some 78) (v := ?_) (a' := ?_) #[true, true, true, true, true, false, true, true, true, true, false, false, false, false] rfl rfl (by kernel_rfl) (fun _ _ _ h => h) (Or.inl ⟨by rfl, ?_⟩) ?_ ?_
    rotate_left
    · intro w'
      go_simp
      with_reducible rfl
    rotate_left
    · simp only [Act.put, List.setIfInBounds_toArray, List.set_cons_zero, List.set_cons_succ]
      rfl
    refine take_ (i := 10) (N := some 79) (v := ?_) (a' := ?_) #[true, true, true, true, true, false, true, true, true, true, true, false, false, false] rfl rfl (by kernel_rfl) (fun _ _ _ h => h) (Or.inl ⟨by rfl, ?_⟩) hHeld ?_ ?_
    rotate_left
    · intro w' hSw
      obtain ⟨hs0, hs1⟩ := hSw
      go_simp
      with_reducible rfl
    rotate_left
    · simp only [Act.put, List.setIfInBounds_toArray, List.set_cons_zero, List.set_cons_succ]
      rfl
    refine one_ (i := 5) (N := some 74) #[true, true, true, true, true, true, true, true, true, true, true, false, false, false] rfl rfl (by kernel_rfl) (by decide) (fun K hK => ?_)
    refine goes_ (f := 14) Tryd.func14 (by kernel_rfl) rfl #[.pointer (some ⟨b, 0, none⟩), .int .i64 least, .int .i64 most] (by rfl) rfl rfl (by simp only [List.map_toArray, List.map_cons, List.map_nil]; rfl) ?_
    refine (num_calls (HC.out.keep0 (Keeps.drew (Keeps.refl _ _))) least most).mono ?_
    rintro e w5 ⟨rfl, c5, k5⟩
    refine ⟨_, rfl, ?_⟩
    have d5 := (HD.out.keep0 (Keeps.drew (Keeps.refl _ _))).keeps k5 hne.symm hib'
    have kk5 := (HK.out.trans (Keeps.drew (Keeps.refl _ _))).trans (Keeps.one k5)
    refine hK.out _ _ ⟨k5.cell' (p := ⟨w.heap.size, 1, none⟩) hHeld.1 (by intro q; have q2 : w.heap.size = b := q; omega), k5.cell' (p := ⟨w.heap.size, 2, none⟩) hHeld.2 (by intro q; have q2 : w.heap.size = b := q; omega)⟩ (fun hHeld => ?_)
    clear hK K
    refine norm_ (a' := ?na5005) ?nb5005 ?nc5005
    case nb5005 =>
      simp only [Act.put, List.setIfInBounds_toArray, List.set_cons_zero, List.set_cons_succ]
      rfl
    refine one_ (i := 11) (N := some 80) #[true, true, true, true, true, true, true, true, true, true, true, true, false, false] rfl rfl (by kernel_rfl) (by decide) (fun K hK => ?_)
    refine goes_ (f := 14) Tryd.func14 (by kernel_rfl) rfl #[.pointer (some ⟨b', 0, none⟩), .int .i64 least, .int .i64 most] (by rfl) rfl rfl (by simp only [List.map_toArray, List.map_cons, List.map_nil]; rfl) ?_
    refine (num_calls d5 least most).mono ?_
    rintro e w6 ⟨rfl, d6, k6⟩
    refine ⟨_, rfl, ?_⟩
    have c6 := c5.keeps k6 hne hib
    have kk6 := kk5.trans (Keeps.two k6)
    refine hK.out _ _ ⟨k6.cell' (p := ⟨w.heap.size, 1, none⟩) hHeld.1 (by intro q; have q2 : w.heap.size = b' := q; omega), k6.cell' (p := ⟨w.heap.size, 2, none⟩) hHeld.2 (by intro q; have q2 : w.heap.size = b' := q; omega)⟩ (fun hHeld => ?_)
    clear hK K
    refine norm_ (a' := ?na6011) ?nb6011 ?nc6011
    case nb6011 =>
      simp only [Act.put, List.setIfInBounds_toArray, List.set_cons_zero, List.set_cons_succ]
      rfl
    refine pure_ (i := 12) (N := some 81) (v := ?_) (a' := ?_) #[true, true, true, true, true, true, true, true, true, true, true, true, true, false] rfl rfl (by kernel_rfl) (fun _ _ _ h => h) (Or.inl ⟨by rfl, ?_⟩) ?_ ?_
    rotate_left
    · intro w'
      go_simp
      with_reducible rfl
    rotate_left
    · simp only [Act.put, List.setIfInBounds_toArray, List.set_cons_zero, List.set_cons_succ]
      rfl
    refine pure_ (i := 13) (N := some 6) (v := ?_) (a' := ?_) #[true, true, true, true, true, true, true, true, true, true, true, true, true, true] rfl rfl (by kernel_rfl) (fun _ _ _ h => h) (Or.inl ⟨by rfl, ?_⟩) ?_ ?_
    rotate_left
    · intro w'
      go_simp
      with_reducible rfl
    rotate_left
    · simp only [Act.put, List.setIfInBounds_toArray, List.set_cons_zero, List.set_cons_succ]
      rfl
    refine done_ (by kernel_rfl) ?_
    have bi : ((c.num least most).1 == (d.num least most).1) = true := by rw [(H.out.num least most).1]; simp
    clear hHeld y0 y1 y2 y3 y4
    go_wp2
    go_ret
    refine ⟨(by show Ending.returned (.bool ((c.num least most).1 == (d.num least most).1)) = _; rw [bi]), ?_, ?_, kk6⟩
    · rw [show Cur.gets c ⟨what, least, most, s, t⟩ = (c.num least most).2 from Hgc.out]
      exact c6
    · rw [show Cur.gets d ⟨what, least, most, s, t⟩ = (d.num least most).2 from Hgd.out]
      exact d6
  · go_wp2_with (first | (go_at_call 38; refine (Hpick.out _).mono ?_; rintro e w4 ⟨rfl, rfl⟩) | (go_at_call 10; have _t0 := D1.out; refine (Err_calls D1.out).mono ?_; rintro e w2 ⟨rfl, k2⟩; have HC := Lib.hid (C1.out.keep0 k2); have HD := Lib.hid (D1.out.keep0 k2); have HK := Lib.hid (K1.out.trans (Keeps.none k2)); have hb2 := k2.heap Hb1.out (by simp); have y0 : w2.cell? ⟨w.heap.size, 0, none⟩ = some (.int .i64 what) := (blk_cell hb2 0).trans rfl; have y1 : w2.cell? ⟨w.heap.size, 1, none⟩ = some (.int .i64 least) := (blk_cell hb2 1).trans rfl; have y2 : w2.cell? ⟨w.heap.size, 2, none⟩ = some (.int .i64 most) := (blk_cell hb2 2).trans rfl; have y3 : w2.cell? ⟨w.heap.size, 3, none⟩ = some (.string s) := (blk_cell hb2 3).trans rfl; have y4 : w2.cell? ⟨w.heap.size, 4, none⟩ = some (.string t) := (blk_cell hb2 4).trans rfl; have Hb2 := Lib.hid hb2; have Mc := Lib.hid (more_calls HC.out); have Md := Lib.hid (more_calls HD.out); clear k2 D1 C1 K1 Hb1 hb2) | (go_at_call 10; refine Ec.out.mono ?_; rintro e w1 ⟨rfl, k1⟩; have C1 := Lib.hid (HC.out.keep0 k1); have D1 := Lib.hid (HD.out.keep0 k1); have K1 := Lib.hid (Kob.out.trans (Keeps.none k1)); have Hb1 := Lib.hid (k1.heap Hob.out (by simp)); clear k1 HC HD Ec) | (go_at_call 11; first | (refine Mc.out.mono ?_; rintro e w3 ⟨rfl, rfl⟩; clear Mc) | (refine Md.out.mono ?_; rintro e w3 ⟨rfl, rfl⟩; clear Md)) | (go_at_call 23; have _t0 := HD5.out; go_loud (have m6 := Mark_calls (HD5.out.keep0 ((Keeps.refl (fun _ => False) w5).alloc (.cells #[.string s, .string t] 9))) w5.heap.size 0 [s, t] (strs_two w5 s t _) (by omega) (by simp) 2; refine m6.mono ?_; clear m6; rintro e w6 ⟨rfl, d6, k6⟩; have c6 := (HC5.out.keep0 ((Keeps.refl (fun _ => False) w5).alloc (.cells #[.string s, .string t] 9))).keeps k6 hne hib; have kk6 := (HK5.out.alloc (.cells #[.string s, .string t] 9)).trans (Keeps.two k6); clear k6)) | (go_at_call 23; go_loud (have m5 := Mark_calls (HC.out.keep0 ((Keeps.refl (fun _ => False) w2).alloc (.cells #[.string s, .string t] 9))) w2.heap.size 0 [s, t] (strs_two w2 s t _) (by have := HC.out.lt; omega) (by simp) 2; refine m5.mono ?_; clear m5; rintro e w5 ⟨rfl, c5, k5⟩; have HC5 := Lib.hid c5; have HD5 := Lib.hid ((HD.out.keep0 ((Keeps.refl (fun _ => False) w2).alloc (.cells #[.string s, .string t] 9))).keeps k5 hne.symm hib'); have HK5 := Lib.hid ((HK.out.alloc (.cells #[.string s, .string t] 9)).trans (Keeps.one k5)); have hb5 := ((Keeps.refl (fun _ => False) w2).alloc (.cells #[.string s, .string t] 9)).heap Hb2.out (by simp); have hb6 := k5.heap hb5 (by omega); have z3 : w5.cell? ⟨w.heap.size, 3, none⟩ = some (.string s) := (blk_cell hb6 3).trans rfl; have z4 : w5.cell? ⟨w.heap.size, 4, none⟩ = some (.string t) := (blk_cell hb6 4).trans rfl; have hl5 := HD5.out.lt; clear c5 k5 hb5 hb6)))
    go_ret
    refine ⟨rfl, ?_, ?_, kk6⟩
    · rw [show Cur.gets c ⟨what, least, most, s, t⟩ = c.marks [s, t] from Hgc.out]
      exact c6
    · rw [show Cur.gets d ⟨what, least, most, s, t⟩ = d.marks [s, t] from Hgd.out]
      exact d6
  · go_wp2_with (first | (go_at_call 38; refine (Hpick.out _).mono ?_; rintro e w4 ⟨rfl, rfl⟩) | (go_at_call 10; have _t0 := D1.out; refine (Err_calls D1.out).mono ?_; rintro e w2 ⟨rfl, k2⟩; have HC := Lib.hid (C1.out.keep0 k2); have HD := Lib.hid (D1.out.keep0 k2); have HK := Lib.hid (K1.out.trans (Keeps.none k2)); have hb2 := k2.heap Hb1.out (by simp); have y0 : w2.cell? ⟨w.heap.size, 0, none⟩ = some (.int .i64 what) := (blk_cell hb2 0).trans rfl; have y1 : w2.cell? ⟨w.heap.size, 1, none⟩ = some (.int .i64 least) := (blk_cell hb2 1).trans rfl; have y2 : w2.cell? ⟨w.heap.size, 2, none⟩ = some (.int .i64 most) := (blk_cell hb2 2).trans rfl; have y3 : w2.cell? ⟨w.heap.size, 3, none⟩ = some (.string s) := (blk_cell hb2 3).trans rfl; have y4 : w2.cell? ⟨w.heap.size, 4, none⟩ = some (.string t) := (blk_cell hb2 4).trans rfl; have Hb2 := Lib.hid hb2; have Mc := Lib.hid (more_calls HC.out); have Md := Lib.hid (more_calls HD.out); clear k2 D1 C1 K1 Hb1 hb2) | (go_at_call 10; refine Ec.out.mono ?_; rintro e w1 ⟨rfl, k1⟩; have C1 := Lib.hid (HC.out.keep0 k1); have D1 := Lib.hid (HD.out.keep0 k1); have K1 := Lib.hid (Kob.out.trans (Keeps.none k1)); have Hb1 := Lib.hid (k1.heap Hob.out (by simp)); clear k1 HC HD Ec) | (go_at_call 11; first | (refine Mc.out.mono ?_; rintro e w3 ⟨rfl, rfl⟩; clear Mc) | (refine Md.out.mono ?_; rintro e w3 ⟨rfl, rfl⟩; clear Md)) | (go_at_call 12; have _t0 := HD5.out; refine (End_calls HD5.out).mono ?_; rintro e w6 ⟨rfl, d6, k6⟩; have c6 := HC5.out.keeps k6 hne hib; have kk6 := HK5.out.trans (Keeps.two k6); clear k6) | (go_at_call 12; refine (End_calls HC.out).mono ?_; rintro e w5 ⟨rfl, c5, k5⟩; have HC5 := Lib.hid c5; have HD5 := Lib.hid (HD.out.keeps k5 hne.symm hib'); have HK5 := Lib.hid (HK.out.trans (Keeps.one k5)); clear c5 k5))
    go_ret
    refine ⟨rfl, ?_, ?_, kk6⟩
    · rw [show Cur.gets c ⟨what, least, most, s, t⟩ = c.fin from Hgc.out]
      exact c6
    · rw [show Cur.gets d ⟨what, least, most, s, t⟩ = d.fin from Hgd.out]
      exact d6
  · go_wp2_with (first | (go_at_call 38; refine (Hpick.out _).mono ?_; rintro e w4 ⟨rfl, rfl⟩) | (go_at_call 10; have _t0 := D1.out; refine (Err_calls D1.out).mono ?_; rintro e w2 ⟨rfl, k2⟩; have HC := Lib.hid (C1.out.keep0 k2); have HD := Lib.hid (D1.out.keep0 k2); have HK := Lib.hid (K1.out.trans (Keeps.none k2)); have hb2 := k2.heap Hb1.out (by simp); have y0 : w2.cell? ⟨w.heap.size, 0, none⟩ = some (.int .i64 what) := (blk_cell hb2 0).trans rfl; have y1 : w2.cell? ⟨w.heap.size, 1, none⟩ = some (.int .i64 least) := (blk_cell hb2 1).trans rfl; have y2 : w2.cell? ⟨w.heap.size, 2, none⟩ = some (.int .i64 most) := (blk_cell hb2 2).trans rfl; have y3 : w2.cell? ⟨w.heap.size, 3, none⟩ = some (.string s) := (blk_cell hb2 3).trans rfl; have y4 : w2.cell? ⟨w.heap.size, 4, none⟩ = some (.string t) := (blk_cell hb2 4).trans rfl; have Hb2 := Lib.hid hb2; have Mc := Lib.hid (more_calls HC.out); have Md := Lib.hid (more_calls HD.out); clear k2 D1 C1 K1 Hb1 hb2) | (go_at_call 10; refine Ec.out.mono ?_; rintro e w1 ⟨rfl, k1⟩; have C1 := Lib.hid (HC.out.keep0 k1); have D1 := Lib.hid (HD.out.keep0 k1); have K1 := Lib.hid (Kob.out.trans (Keeps.none k1)); have Hb1 := Lib.hid (k1.heap Hob.out (by simp)); clear k1 HC HD Ec) | (go_at_call 11; first | (refine Mc.out.mono ?_; rintro e w3 ⟨rfl, rfl⟩; clear Mc) | (refine Md.out.mono ?_; rintro e w3 ⟨rfl, rfl⟩; clear Md)))
    go_ret
    have c6 := HC.out
    have d6 := HD.out
    have kk6 := HK.out
    refine ⟨rfl, ?_, ?_, kk6⟩
    · rw [show Cur.gets c ⟨what, least, most, s, t⟩ = c from Hgc.out]
      exact c6
    · rw [show Cur.gets d ⟨what, least, most, s, t⟩ = d from Hgd.out]
      exact d6
  · go_wp2_with (first | (go_at_call 38; refine (Hpick.out _).mono ?_; rintro e w4 ⟨rfl, rfl⟩) | (go_at_call 10; have _t0 := D1.out; refine (Err_calls D1.out).mono ?_; rintro e w2 ⟨rfl, k2⟩; have HC := Lib.hid (C1.out.keep0 k2); have HD := Lib.hid (D1.out.keep0 k2); have HK := Lib.hid (K1.out.trans (Keeps.none k2)); have hb2 := k2.heap Hb1.out (by simp); have y0 : w2.cell? ⟨w.heap.size, 0, none⟩ = some (.int .i64 what) := (blk_cell hb2 0).trans rfl; have y1 : w2.cell? ⟨w.heap.size, 1, none⟩ = some (.int .i64 least) := (blk_cell hb2 1).trans rfl; have y2 : w2.cell? ⟨w.heap.size, 2, none⟩ = some (.int .i64 most) := (blk_cell hb2 2).trans rfl; have y3 : w2.cell? ⟨w.heap.size, 3, none⟩ = some (.string s) := (blk_cell hb2 3).trans rfl; have y4 : w2.cell? ⟨w.heap.size, 4, none⟩ = some (.string t) := (blk_cell hb2 4).trans rfl; have Hb2 := Lib.hid hb2; have Mc := Lib.hid (more_calls HC.out); have Md := Lib.hid (more_calls HD.out); clear k2 D1 C1 K1 Hb1 hb2) | (go_at_call 10; refine Ec.out.mono ?_; rintro e w1 ⟨rfl, k1⟩; have C1 := Lib.hid (HC.out.keep0 k1); have D1 := Lib.hid (HD.out.keep0 k1); have K1 := Lib.hid (Kob.out.trans (Keeps.none k1)); have Hb1 := Lib.hid (k1.heap Hob.out (by simp)); clear k1 HC HD Ec) | (go_at_call 11; first | (refine Mc.out.mono ?_; rintro e w3 ⟨rfl, rfl⟩; clear Mc) | (refine Md.out.mono ?_; rintro e w3 ⟨rfl, rfl⟩; clear Md)))
    go_ret
    have c6 := HC.out
    have d6 := HD.out
    have kk6 := HK.out
    refine ⟨rfl, ?_, ?_, kk6⟩
    · rw [show Cur.gets c ⟨what, least, most, s, t⟩ = c from Hgc.out]
      exact c6
    · rw [show Cur.gets d ⟨what, least, most, s, t⟩ = d from Hgd.out]
      exact d6

end
end Go.Proofs.YtoibcaoaljglbaaDoor
