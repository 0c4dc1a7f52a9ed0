/-
  The walk of LineGets.
-/
import Derived.Test.YtoibcaoaljglbaaDoorGetsA
namespace Go.Proofs.YtoibcaoaljglbaaDoor
open Go Go.RowKit
set_option linter.unusedSimpArgs false

/-- the loop's relation -/
structure GAt (w wr : World) (b ib b' g : Nat) (st : Cur) : Prop where
  cs : CS wr b ib st
  rs : RCur wr b' g st
  keep : Keeps (fun _ => False) w wr

theorem GAt.next {w wr w2 : World} {b ib b' g : Nat} {st st2 : Cur} (h : GAt w wr b ib b' g st) (hb : w.heap.size ≤ b) (hb' : w.heap.size ≤ b') {e : Ending} (hp : SamePost wr b ib b' g st2 e w2) : GAt w w2 b ib b' g st2 :=
  ⟨hp.2.1, hp.2.2.1, h.keep.trans' hp.2.2.2 (by omega)⟩

theorem GAt.keep0 {w wr w2 : World} {b ib b' g : Nat} {st : Cur} (h : GAt w wr b ib b' g st) (hk : Keeps (fun _ => False) wr w2) : GAt w w2 b ib b' g st := ⟨h.cs.keep0 hk, h.rs.keep0 hk, h.keep.trans hk⟩

section
set_option maxRecDepth 100000
set_option maxHeartbeats 4000000

theorem gets_calls (s : ByteArray) (A : Option Addr) (cap g0 off : Nat) (xs : List GetX) (w : World) (hG : Glob w) (h4 : 4 ≤ w.heap.size) (hs : s.size ≤ 140737488351232) (hx : GetsAt w g0 off xs) (hA : xs ≠ [] → A = some ⟨g0, off, none⟩) (hf : GetsFit xs) (hg : g0 < w.heap.size) :
    Calls Tryd.prog 5 #[.string s, .slice A xs.length cap] w (LineAllPost w) := by
  have HG := Lib.hid (fun (w' : World) (hk : Keeps (fun _ => False) w w') => (show Glob w' ∧ 4 ≤ w'.heap.size from ⟨hG.keeps hk (by simp), by have := hk.size; omega⟩))
  have H4 := Lib.hid h4
  have HX := Lib.hid hx
  have HA := Lib.hid hA
  have HF := Lib.hid hf
  have Hs0 := Lib.hid hs
  have hxl := hf.1
  have Hsz := Lib.hid (size_calls g0 off A cap xs w hx hA hf)
  clear hG h4 hs hx hA hf
  go_enter Tryd.func5, Tryd.ntmps5
  go_wp2_with (first | (go_at_call 16; refine Hsz.out.mono ?_; rintro e w2 ⟨⟨n, rfl, n1, n2⟩, k2⟩; have K2 := Lib.hid k2; have q1 : IntKind.i64.wrap ((s.size : Int) + n) = s.size + n := IntWalk.i64_in _ (by have := Hs0.out; omega); have HN := Lib.hid (show (xs.length : Int) ≤ n from n1); clear k2 n1 n2 Hsz) | (go_at_call 7; refine (awake_calls _ (HG.out _ K2.out).1 (HG.out _ K2.out).2).mono ?_; rintro e w3 ⟨rfl, k3⟩; have K3 := Lib.hid (K2.out.trans k3); clear k3) | (go_at_call 9; have Hs := Lib.hid (show s.size ≤ 3000 by have := HN.out; omega); refine (Over_calls s _ (by have := Hs.out; omega) (HG.out _ K2.out).1 (HG.out _ K2.out).2).mono ?_; rintro e w4 ⟨b, ib0, rfl, hb, hib, hcs, k4⟩; obtain ⟨ib, hcs, hib⟩ := hcs.low (by have := (HG.out _ K2.out).2; omega); have K4 := Lib.hid (K2.out.trans k4); have HB := Lib.hid (show w.heap.size ≤ b ∧ ib < w4.heap.size from by have := K2.out.size; omega); have HC4 := Lib.hid hcs; clear hb hib hcs k4) | (go_at_call 19; refine (rOver_calls s w4 (by have := Hs.out; omega) (HG.out _ K4.out).2).mono ?_; rintro e w5 ⟨b', g, rfl, hb', hg', hr, k5⟩; have K5 := Lib.hid (K4.out.trans k5); have HB' := Lib.hid (show w.heap.size ≤ b' ∧ b ≠ b' ∧ ib ≠ b' ∧ g ≠ b from by have := K4.out.size; have := HC4.out.lt; have := HB.out; have := H4.out; omega); have HA5 := Lib.hid (show GAt w w5 b ib b' g (overCur s) from ⟨HC4.out.keep0 k5, hr, K5.out⟩); clear hb' hg' hr k5 HC4) | (go_at_call 20; refine (both_calls HA5.out.cs HA5.out.rs).mono ?_; rintro e w6 ⟨rfl, k6⟩; have HA6 := Lib.hid (HA5.out.keep0 k6); clear k6 HA5))
  · go_ret
    exact ⟨rfl, K3.out⟩
  have hxs : xs.length ≤ 3000 := by have := HN.out; omega
  clear q1 HN Hs0 hxl K2 K4 K5
  go_loopw [7] (fun vi wr => ∃ (k : Nat) (st : Cur), k ≤ xs.length ∧ vi = .int .i64 k ∧ Hid (GAt w wr b ib b' g st)) (fun vi _ => xs.length - (intOf vi).toNat)
  case atStart => exact ⟨0, _, Nat.zero_le _, rfl, HA6⟩
  case round =>
    obtain ⟨k, st, hk, rfl, HR⟩ := hrel
    clear HA6
    by_cases hlt : k < xs.length
    · have hxk : xs[k]? = some xs[k] := by simp [hlt]
      obtain ⟨x0, x1, x2, x3, x4⟩ := (HX.out.keeps HR.out.keep (by simp)) _ _ hxk
      obtain rfl := HA.out (List.length_pos_iff.1 (by omega))
      clear hxk
      generalize xs[k] = x at *
      obtain ⟨what, least, most, sx, tx⟩ := x
      simp only at x0 x1 x2 x3 x4
      go_wp2_with (first | (go_at_call 21; refine (same_calls HR.out.cs HR.out.rs HB'.out.2.1 HB'.out.2.2.1 HB'.out.2.2.2 ⟨what, least, most, sx, tx⟩).mono ?_; rintro e w7 hp; have e1 := hp.1; subst e1; have HR2 := Lib.hid (HR.out.next HB.out.1 HB'.out.1 hp); clear hp) | (go_at_call 20; refine (both_calls HR2.out.cs HR2.out.rs).mono ?_; rintro e w8 ⟨rfl, k8⟩; have HR3 := Lib.hid (HR2.out.keep0 k8); clear k8))
      go_roundw
      case rel => exact ⟨k + 1, _, by omega, by go_num, HR3⟩
      case measure => simp [intOf]; omega
    · go_wp2_with (first | (go_at_call 7; refine (awake_calls _ (HG.out _ HR.out.keep).1 (HG.out _ HR.out.keep).2).mono ?_; rintro e w9 ⟨rfl, k9⟩; have K9 := Lib.hid (HR.out.keep.trans k9); clear k9))
      go_ret
      exact ⟨rfl, K9.out⟩

end
end Go.Proofs.YtoibcaoaljglbaaDoor
