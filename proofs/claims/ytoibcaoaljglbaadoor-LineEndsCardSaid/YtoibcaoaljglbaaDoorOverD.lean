/-
  The walk of CompactFunc at items.
-/
import Derived.Test.YtoibcaoaljglbaaDoorOverC
import Derived.Deep.LoopGhost
import Derived.IntWalk
namespace Go.Proofs.YtoibcaoaljglbaaDoor
open Go Go.RowKit

/-- what a call of CompactFunc leaves -/
def CompPost (g cap : Nat) (its : List Item) (w : World) (e : Ending) (w' : World) : Prop :=
  e = .returned (.slice (some ⟨g, 0, none⟩) (comp false its).length cap) ∧ Keeps (fun i => i = g) w w' ∧ ∃ cur', RowF w' g cap cur' ∧ ∀ i x, (comp false its)[i]? = some x → ItemAt cur' i x

/-- the inner loop's relation: j items are gone through, k are kept -/
structure CompAt (g cap : Nat) (its : List Item) (w w' : World) (k j : Nat) : Prop where
  keep : Keeps (fun i => i = g) w w'
  len : k = (comp false (its.take j)).length
  row : ∃ cur, RowF w' g cap cur ∧ (∀ i x, (comp false (its.take j))[i]? = some x → ItemAt cur i x) ∧ ∀ i x, j - 1 ≤ i → its[i]? = some x → ItemAt cur i x

set_option maxRecDepth 100000 in
set_option maxHeartbeats 4000000 in
theorem compact_calls (w : World) (g cap : Nat) (cur : Array Value) (its : List Item) (hrow : RowF w g cap cur) (hit : ∀ i x, its[i]? = some x → ItemAt cur i x) (hlen : its.length ≤ cap) (hcap : cap ≤ 9223372036854775807) :
    Calls Tryd.prog 30 #[.slice (some ⟨g, 0, none⟩) its.length cap, .func (.func 31) #[] #[]] w (CompPost g cap its w) := by
  by_cases h2 : its.length < 2
  · have e1 : comp false its = its := by
      match its, h2 with
      | [], _ => rfl
      | [x], _ => simp [comp]
    have fin := Lib.hid (show CompPost g cap its w (.returned (.slice (some ⟨g, 0, none⟩) its.length cap)) w from by
      unfold CompPost
      rw [e1]
      exact ⟨rfl, Keeps.refl _ _, cur, hrow, hit⟩)
    have b2 : decide ((its.length : Int) < 2) = true := by simp; omega
    clear hrow hit e1 h2
    go_enter Tryd.func30, Tryd.ntmps30
    go_wp2
    go_ret
    exact fin.out
  · have b2 : decide ((its.length : Int) < 2) = false := by simp; omega
    have Hrow := Lib.hid hrow
    have Hit := Lib.hid hit
    have Hst := Lib.hid (comp_take_one its)
    clear hrow hit
    go_enter Tryd.func30, Tryd.ntmps30
    go_wp2
    go_loopw [5] (fun v wr => ∃ k : Nat, 1 ≤ k ∧ k ≤ its.length ∧ v = .int .i64 k ∧ Hid (comp false (its.take k) = its.take k) ∧ Hid (Keeps (fun _ => False) w wr)) (fun v _ => its.length - (intOf v).toNat)
    case atStart => exact ⟨1, Nat.le_refl _, by omega, rfl, Hst, Lib.hid (Keeps.refl _ _)⟩
    case round =>
      obtain ⟨k, hk1, hk2, rfl, Hc, Hk⟩ := hrel
      by_cases hlt : k < its.length
      · have hx : its[k]? = some its[k] := by simp [hlt]
        have hy : its[k - 1]? = some its[k - 1] := by simp
        obtain ⟨x0, x1, x2⟩ := Hit.out k _ hx
        obtain ⟨y0, y1, y2⟩ := Hit.out (k - 1) _ hy
        have hsn := comp_take_succ its (k - 1) its[k] its[k - 1] (by rw [show k - 1 + 1 = k by omega]; exact hx) hy
        rw [show k - 1 + 2 = k + 1 by omega, show k - 1 + 1 = k by omega, Hc.out] at hsn
        have hxk := hx
        generalize its[k] = x at *
        generalize its[k - 1] = y at *
        have hR := Hrow.out.keep0 Hk.out
        have cx0 := (hR.cell (k * 3)).trans x0
        have cx1 := (hR.cell (k * 3 + 1)).trans x1
        have cx2 := (hR.cell (k * 3 + 2)).trans x2
        have cy0 := (hR.cell ((k - 1) * 3)).trans y0
        have cy1 := (hR.cell ((k - 1) * 3 + 1)).trans y1
        have cy2 := (hR.cell ((k - 1) * 3 + 2)).trans y2
        have HR := Lib.hid hR
        clear x0 x1 x2 y0 y1 y2 hR hx hy
        have q1 : IntKind.i64.wrap ((k : Int) - 1) = (k : Int) - 1 := IntWalk.i64_in _ (by omega)
        have q2 : (0 : Int) ≤ (k : Int) - 1 := by omega
        have q2' : (1 : Int) ≤ (k : Int) := by omega
        have q3 : ((k : Int) - 1).toNat = k - 1 := by omega
        have q4 : (k : Int) - 1 < (its.length : Int) := by omega
        cases hts : twoStops x y with
        | false =>
          rw [hts] at hsn
          have Hn := Lib.hid (show comp false (its.take (k + 1)) = its.take (k + 1) from by rw [hsn, if_neg (by decide)]; rw [List.take_add_one, hxk]; rfl)
          have Hts := Lib.hid hts
          clear hsn hts hxk
          go_wp2_with fail
          go_region_with (go_at_call 31; refine (closure_calls x y _).mono ?_; rw [Hts.out]; rintro e w1 ⟨rfl, hk0⟩; have K1 := Lib.hid ((Hk.out.drew).trans hk0); clear hk0)
          all_goals
            clear q1 q2 q2' q3 q4
            go_wp2
            go_roundw
            case rel => exact ⟨k + 1, by omega, by omega, by go_num, Hn, K1⟩
            case measure => simp [intOf]; omega
        | true =>
          rw [hts] at hsn
          have hn : comp false (its.take (k + 1)) = its.take k := by rw [hsn, if_pos rfl, List.append_nil]
          have Hst2 := Lib.hid (fun (w1 : World) (K1 : Keeps (fun _ => False) w w1) => (⟨K1.mono (fun _ _ q => q.elim), by rw [hn]; simp; omega, cur, Hrow.out.keep0 K1, by rw [hn]; intro i z hz; exact Hit.out i z (by rw [List.getElem?_take] at hz; split at hz; exact hz; cases hz), fun i z _ hz => Hit.out i z hz⟩ : CompAt g cap its w w1 k (k + 1)))
          have Hts := Lib.hid hts
          clear hsn hts hn hxk
          go_wp2_with fail
          go_region_with (go_at_call 31; refine (closure_calls x y _).mono ?_; rw [Hts.out]; rintro e w1 ⟨rfl, hk0⟩; have K1 := Lib.hid ((Hk.out.drew).trans hk0); clear hk0)
          all_goals
            clear q1 q2 q2' q3 q4 cx0 cx1 cx2 cy0 cy1 cy2
            have hkc : k ≤ cap := by omega
            have hkc2 : k < cap := by omega
            go_wp2
            clear Hts HR Hk
            go_loopw [5, 7] (fun v5 v7 wi => ∃ kk jj : Nat, v5 = .int .i64 kk ∧ v7 = .int .i64 jj ∧ 1 ≤ jj ∧ k + jj ≤ its.length ∧ kk + 1 ≤ k + jj ∧ Hid (CompAt g cap its w wi kk (k + jj))) (fun _ v7 _ => its.length - (intOf v7).toNat)
            case atStart => exact ⟨k, 1, rfl, rfl, Nat.le_refl _, by omega, by omega, Lib.hid (Hst2.out _ K1.out)⟩
            case round =>
              obtain ⟨kk, jj, rfl, rfl, hj1, hj2, hkk, HA⟩ := hrel
              obtain ⟨cur2, hr2, hpre, hsuf⟩ := HA.out.row
              by_cases hjl : k + jj < its.length
              · have hx : its[k + jj]? = some its[k + jj] := by simp [hjl]
                have hy : its[k + jj - 1]? = some its[k + jj - 1] := by simp
                obtain ⟨x0, x1, x2⟩ := hsuf (k + jj) _ (by omega) hx
                obtain ⟨y0, y1, y2⟩ := hsuf (k + jj - 1) _ (Nat.le_refl _) hy
                have hsn := comp_take_succ its (k + jj - 1) its[k + jj] its[k + jj - 1] (by rw [show k + jj - 1 + 1 = k + jj by omega]; exact hx) hy
                rw [show k + jj - 1 + 2 = k + (jj + 1) by omega, show k + jj - 1 + 1 = k + jj by omega] at hsn
                have hxk := hx
                clear hx hy
                generalize its[k + jj] = x2i at *
                generalize its[k + jj - 1] = y2i at *
                have cx0 := (hr2.cell ((k + jj) * 3)).trans x0
                have cx1 := (hr2.cell ((k + jj) * 3 + 1)).trans x1
                have cx2 := (hr2.cell ((k + jj) * 3 + 2)).trans x2
                have cy0 := (hr2.cell ((k + jj - 1) * 3)).trans y0
                have cy1 := (hr2.cell ((k + jj - 1) * 3 + 1)).trans y1
                have cy2 := (hr2.cell ((k + jj - 1) * 3 + 2)).trans y2
                rw [show (k + jj) * 3 = k * 3 + jj * 3 by omega] at cx0 cx1 cx2
                rw [show (k + jj - 1) * 3 = k * 3 + (jj - 1) * 3 by omega] at cy0 cy1 cy2
                have q1 : IntKind.i64.wrap ((jj : Int) - 1) = (jj : Int) - 1 := IntWalk.i64_in _ (by omega)
                have q2 : (0 : Int) ≤ (jj : Int) - 1 := by omega
                have q2' : (1 : Int) ≤ (jj : Int) := by omega
                have q3 : ((jj : Int) - 1).toNat = jj - 1 := by omega
                have q4 : (jj : Int) - 1 < ((its.length - k : Nat) : Int) := by omega
                have q5 : (jj : Int) < ((its.length - k : Nat) : Int) := by omega
                have q6 : jj < its.length - k := by omega
                have HR2 := Lib.hid hr2
                have HP := Lib.hid hpre
                have HS := Lib.hid hsuf
                have HXK := Lib.hid hxk
                clear x0 x1 x2 y0 y1 y2 hr2 hpre hsuf hxk
                cases hts : twoStops x2i y2i with
                | true =>
                  rw [hts] at hsn
                  have Hn := Lib.hid (show comp false (its.take (k + (jj + 1))) = comp false (its.take (k + jj)) from by rw [hsn, if_pos rfl, List.append_nil])
                  have Hts := Lib.hid hts
                  clear hsn hts
                  go_wp2_with fail
                  go_region_with (go_at_call 31; refine (closure_calls x2i y2i _).mono ?_; rw [Hts.out]; rintro e w2 ⟨rfl, hk0⟩; have K2 := Lib.hid (((Keeps.refl (fun _ => False) wr).drew).trans hk0); clear hk0)
                  all_goals
                    clear q1 q2 q2' q3 q4 q5 cx0 cx1 cx2 cy0 cy1 cy2
                    go_wp2
                    go_roundw
                    case rel => exact ⟨kk, jj + 1, rfl, by go_num, by omega, by omega, by omega, Lib.hid ⟨HA.out.keep.trans (K2.out.mono (fun _ _ q => q.elim)), by rw [Hn.out]; exact HA.out.len, cur2, HR2.out.keep0 K2.out, by rw [Hn.out]; exact HP.out, fun i z hi hz => HS.out i z (by omega) hz⟩⟩
                    case measure => simp [intOf]; omega
                | false =>
                  rw [hts] at hsn
                  have Hn := Lib.hid (show comp false (its.take (k + (jj + 1))) = comp false (its.take (k + jj)) ++ [x2i] from by rw [hsn, if_neg (by decide)])
                  have Hts := Lib.hid hts
                  have r1 : kk < its.length := by omega
                  clear hsn hts
                  go_wp2_with fail
                  go_region_with (go_at_call 31; refine (closure_calls x2i y2i _).mono ?_; rw [Hts.out]; rintro e w2 ⟨rfl, hk0⟩; have K2 := Lib.hid (((Keeps.refl (fun _ => False) wr).drew).trans hk0); have hr3 := HR2.out.keep0 K2.out; have d0 := (hk0.cell (p := ⟨g, k * 3 + jj * 3, none⟩) (lt_of_heap HR2.out.blk) (by simp)).trans cx0; have d1 := (hk0.cell (p := ⟨g, k * 3 + jj * 3 + 1, none⟩) (lt_of_heap HR2.out.blk) (by simp)).trans cx1; have d2 := (hk0.cell (p := ⟨g, k * 3 + jj * 3 + 2, none⟩) (lt_of_heap HR2.out.blk) (by simp)).trans cx2; clear hk0)
                  all_goals
                    clear q1 q2 q2' q3 q4 cx0 cx1 cx2 cy0 cy1 cy2
                    have s3 := HR2.out.size
                    have g0 : ∃ v, w2.cell? ⟨g, kk * 3, none⟩ = some v := ⟨cur2[kk * 3]'(by omega), (hr3.cell _).trans (by simp)⟩
                    have g1 : ∃ v, w2.cell? ⟨g, kk * 3 + 1, none⟩ = some v := ⟨cur2[kk * 3 + 1]'(by omega), (hr3.cell _).trans (by simp)⟩
                    have g2 : ∃ v, w2.cell? ⟨g, kk * 3 + 2, none⟩ = some v := ⟨cur2[kk * 3 + 2]'(by omega), (hr3.cell _).trans (by simp)⟩
                    obtain ⟨v0, g0⟩ := g0
                    obtain ⟨v1, g1⟩ := g1
                    obtain ⟨v2, g2⟩ := g2
                    have f0 := hr3.free (kk * 3)
                    have f1 := hr3.free (kk * 3 + 1)
                    have f2 := hr3.free (kk * 3 + 2)
                    have HR3 := Lib.hid hr3
                    have HLT := Lib.hid (show kk * 3 + 2 < cur2.size from by omega)
                    clear hr3 s3
                    go_wp2
                    go_roundw
                    case rel => exact ⟨kk + 1, jj + 1, by go_num, by go_num, by omega, by omega, by omega, Lib.hid ⟨HA.out.keep.trans ((((K2.out.mono (fun _ _ q => q.elim)).set1 (kk * 3) _).set1 (kk * 3 + 1) _).set1 (kk * 3 + 2) _), by rw [Hn.out, List.length_append, ← HA.out.len]; rfl, putItem cur2 kk x2i, HR3.out.put kk x2i, by
                      rw [Hn.out]
                      intro i z hz
                      by_cases hi : i = kk
                      · subst hi
                        have hz2 : z = x2i := by
                          rw [List.getElem?_append_right (by rw [← HA.out.len]; exact Nat.le_refl _), ← HA.out.len] at hz
                          simpa using hz.symm
                        rw [hz2]
                        exact putItem_same x2i HLT.out
                      · refine putItem_other (HP.out i z ?_) hi
                        have hlt2 : i < (comp false (its.take (k + jj)) ++ [x2i]).length := (List.getElem?_eq_some_iff.1 hz).1
                        rw [List.length_append, ← HA.out.len] at hlt2
                        simp only [List.length_cons, List.length_nil] at hlt2
                        rw [List.getElem?_append_left (by rw [← HA.out.len]; omega)] at hz
                        exact hz, fun i z hi hz => putItem_other (HS.out i z (by omega) hz) (by omega)⟩⟩
                    case measure => simp [intOf]; omega
              · have hj : k + jj = its.length := by omega
                have hq : ¬ (jj : Int) < ((its.length - k : Nat) : Int) := by omega
                have hq2 : its.length - k ≤ jj := by omega
                have hA2 := HA.out
                rw [hj] at hA2
                have hle : kk = (comp false its).length := by have := hA2.len; rwa [List.take_length] at this
                obtain ⟨cur3, hr3, hp3, _⟩ := hA2.row
                rw [List.take_length] at hp3
                obtain ⟨W2, hcl, hk4, cur4, hr4, hp4⟩ := clear_items hr3 kk (its.length - kk) (cap - kk) 0 (by omega) (by omega)
                have Fin := Lib.hid (show CompPost g cap its w (.returned (.slice (some ⟨g, 0, none⟩) kk cap)) W2 from by
                  unfold CompPost
                  refine ⟨by rw [hle], hA2.keep.trans hk4, cur4, hr4, fun i x hi => hp4 i x ?_ (hp3 i x hi)⟩
                  rw [hle]
                  exact (List.getElem?_eq_some_iff.1 hi).1)
                have r1 : kk < its.length := by omega
                have r2 : kk < cap := by omega
                have r3 : kk ≤ its.length := by omega
                have r4 : kk ≤ cap := by omega
                clear hA2 hle hr3 hp3 hk4 hr4 hp4 HA hj hr2 hpre hsuf hjl
                go_wp2
                go_ret
                exact Fin.out
      · have hk : k = its.length := by omega
        subst hk
        have Fin := Lib.hid (show CompPost g cap its w (.returned (.slice (some ⟨g, 0, none⟩) its.length cap)) wr from by
          have hc := Hc.out
          rw [List.take_length] at hc
          unfold CompPost
          rw [hc]
          exact ⟨rfl, Hk.out.mono (fun _ _ q => q.elim), cur, Hrow.out.keep0 Hk.out, Hit.out⟩)
        clear Hc Hst
        go_wp2
        go_ret
        exact Fin.out

end Go.Proofs.YtoibcaoaljglbaaDoor
