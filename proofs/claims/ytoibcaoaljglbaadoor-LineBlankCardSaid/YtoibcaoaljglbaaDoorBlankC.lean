/-
  The walk of LineBlank.
-/
import Derived.Test.YtoibcaoaljglbaaDoorBlankB
import Derived.Deep.Cut
namespace Go.Proofs.YtoibcaoaljglbaaDoor
open Go Go.RowKit Go.Proofs.YtoibcaoaljglbaaDoorW.PrintLast
set_option linter.unusedSimpArgs false

theorem widen_snoc (l : List UInt8) (b : UInt8) : widen (l ++ [b]) = widen l ++ b :: (if b = 10 then wideTail else []) := by
  induction l with
  | nil => simp [widen]
  | cons a r ih =>
    show a :: ((if a = 10 then wideTail else []) ++ widen (r ++ [b])) = a :: ((if a = 10 then wideTail else []) ++ widen r) ++ _
    rw [ih]
    simp [List.append_assoc]

theorem widen_len (l : List UInt8) : (widen l).length ≤ 10 * l.length := by
  induction l with
  | nil => simp [widen]
  | cons a r ih =>
    simp only [widen, List.length_cons, List.length_append]
    have : (if a = 10 then wideTail else []).length ≤ 9 := by split <;> decide
    omega

theorem fail_zero (c : Cur) : c.fail 0 = c := by
  unfold Cur.fail
  rw [if_neg (by rintro ⟨_, h⟩; exact h rfl)]

theorem fail_broken (c : Cur) {e : Int} (he : e ≠ 0) : (c.fail e).wrong ≠ 0 := by
  unfold Cur.fail
  split
  · exact he
  · rename_i h
    intro h0
    exact h ⟨h0, he⟩

theorem broken_fail {c : Cur} (h : c.wrong ≠ 0) (e : Int) : c.fail e = c := by
  unfold Cur.fail
  rw [if_neg (by rintro ⟨h0, _⟩; exact h h0)]
theorem broken_err {c : Cur} (h : c.wrong ≠ 0) : c.err = (c.l, c.c, c.wrong) := by
  unfold Cur.err
  rw [if_neg h]
theorem broken_more {c : Cur} (h : c.wrong ≠ 0) : c.more = false := by
  unfold Cur.more
  simp [h]
theorem broken_name {c : Cur} (h : c.wrong ≠ 0) : c.name = (⟨#[]⟩, c) := by
  unfold Cur.name
  rw [if_neg h]
theorem broken_num {c : Cur} (h : c.wrong ≠ 0) (a b : Int) : c.num a b = (0, c) := by
  unfold Cur.num
  rw [if_neg h]
theorem broken_is {c : Cur} (h : c.wrong ≠ 0) (x : Has) : c.is x = false := by
  unfold Cur.is
  simp [h]

section
set_option maxRecDepth 100000
set_option maxHeartbeats 4000000

/-- loop 1: the wide text so far -/
def WideAt (s : ByteArray) (k : Nat) (t : ByteArray) : Prop := t.data.toList = wideHead ++ widen (s.data.toList.take k)

theorem WideAt.len {s t : ByteArray} {k : Nat} (h : WideAt s k t) (hk : k ≤ s.size) : t.size ≤ 4 + 10 * s.size := by
  have h1 := congrArg List.length h
  rw [List.length_append, len_bytes] at h1
  have h2 := widen_len (s.data.toList.take k)
  have h3 : (s.data.toList.take k).length ≤ s.size := by rw [List.length_take, len_bytes]; omega
  have h4 : wideHead.length = 4 := rfl
  omega

theorem bytes_slice (s : ByteArray) (k : Nat) (b : UInt8) (h : s.data[k]? = some b) : (s.extract k (k + 1)).data.toList = [b] := by
  rw [ByteArray.data_extract]
  simp only [Array.toList_extract, List.extract_eq_take_drop]
  have hk : k < s.data.size := by
    rcases Nat.lt_or_ge k s.data.size with q | q
    · exact q
    · rw [Array.getElem?_eq_none q] at h
      cases h
  have e : s.data.toList.drop k = b :: s.data.toList.drop (k + 1) := by
    rw [List.drop_eq_getElem_cons (by simpa using hk)]
    congr 1
    have := Array.getElem?_eq_getElem hk
    rw [this] at h
    simpa using Option.some.inj h
  rw [e]
  simp

theorem take_snoc {s : ByteArray} {k : Nat} {b : UInt8} (h : s.data[k]? = some b) : s.data.toList.take (k + 1) = s.data.toList.take k ++ [b] := by
  rw [List.take_add_one]
  congr 1
  rw [Array.getElem?_toList, h]
  rfl

theorem WideAt.next {s t : ByteArray} {k : Nat} {b : UInt8} (h : WideAt s k t) (hb : s.data[k]? = some b) (h10 : b ≠ 10) : WideAt s (k + 1) (t ++ s.extract k (k + 1)) := by
  unfold WideAt at *
  rw [take_snoc hb, widen_snoc, if_neg h10, ByteArray.data_append, Array.toList_append, h, bytes_slice s k b hb]
  simp

theorem WideAt.nextEnd {s t : ByteArray} {k : Nat} (h : WideAt s k t) (hb : s.data[k]? = some 10) : WideAt s (k + 1) (t ++ s.extract k (k + 1) ++ ⟨#[9, 59, 32, 226, 134, 146, 10, 10, 32]⟩) := by
  unfold WideAt at *
  rw [take_snoc hb, widen_snoc, if_pos rfl, ByteArray.data_append, Array.toList_append, ByteArray.data_append, Array.toList_append, h, bytes_slice s k 10 hb]
  simp [wideTail]

/-- loop 2's relation -/
structure BAt (w wr : World) (b ib b' ib' : Nat) (c d : Cur) : Prop where
  cs : CS wr b ib c
  ds : CS wr b' ib' d
  ac : AC c d
  keep : Keeps (fun _ => False) w wr

theorem BAt.next {w wr w2 : World} {b ib b' ib' : Nat} {c d : Cur} (h : BAt w wr b ib b' ib' c d) (hb : w.heap.size ≤ b) (hb' : w.heap.size ≤ b') {x : GetX} {e : Ending} (hp : AlikePost wr b ib b' ib' (c.gets x) (d.gets x) e w2) :
    BAt w w2 b ib b' ib' (c.gets x) (d.gets x) := ⟨hp.2.1, hp.2.2.1, h.ac.gets x, h.keep.trans' hp.2.2.2 (by omega)⟩

theorem BAt.drew {w wr : World} {b ib b' ib' : Nat} {c d : Cur} (h : BAt w wr b ib b' ib' c d) : BAt w wr.drew b ib b' ib' c d := ⟨CS.drew' h.cs, CS.drew' h.ds, h.ac, h.keep.drew⟩

theorem CS.low {w : World} {b ib : Nat} {st : Cur} (h : CS w b ib st) (hb : b ≠ 0) : ∃ ib2, CS w b ib2 st ∧ ib2 < w.heap.size := by
  have hlt := h.lt
  obtain ⟨A, c, h1, h2, h3, h4, h5⟩ := h
  by_cases hi : st.items = []
  · exact ⟨0, ⟨A, c, h1, h2, h3, fun hne => absurd hi hne, fun e => hb e.symm⟩, by omega⟩
  · refine ⟨ib, ⟨A, c, h1, h2, h3, h4, h5⟩, ?_⟩
    obtain ⟨off, hA, hc⟩ := h4 hi
    obtain ⟨x, r, hx⟩ := List.exists_cons_of_ne_nil hi
    obtain ⟨a1, _, _⟩ := hc 0 x (by rw [hx]; rfl)
    rcases Nat.lt_or_ge ib w.heap.size with q | q
    · exact q
    · simp [World.cell?, Array.getElem?_eq_none q] at a1

theorem blank_calls (s : ByteArray) (A : Option Addr) (cap g off : Nat) (xs : List GetX) (er : Int) (w : World) (hG : Glob w) (h4 : 4 ≤ w.heap.size) (hs : s.size ≤ 140737488351232) (hx : GetsAt w g off xs) (hA : xs ≠ [] → A = some ⟨g, off, none⟩) (hf : GetsFit xs) (hg : g < w.heap.size) :
    Calls Tryd.prog 4 #[.string s, .slice A xs.length cap, .int .i64 er] w (LineAllPost w) := by
  have Ha := Lib.hid (awake_calls w hG h4)
  have HG := Lib.hid (fun (w' : World) (hk : Keeps (fun _ => False) w w') => (show Glob w' ∧ 4 ≤ w'.heap.size from ⟨hG.keeps hk (by simp), by have := hk.size; omega⟩))
  have HX := Lib.hid hx
  have HA := Lib.hid hA
  have HF := Lib.hid hf
  have Hs0 := Lib.hid hs
  have hxl := hf.1
  clear hG h4 hs hx hA hf
  go_enter Tryd.func4, Tryd.ntmps4
  go_wp2_with (first | (go_at_call 7; refine Ha.out.mono ?_; rintro e w1 ⟨rfl, k1⟩; have K1 := Lib.hid k1; clear k1) | (go_at_call 16; refine (size_calls g off A cap xs w1 (HX.out.keeps K1.out (by simp)) HA.out HF.out).mono ?_; rintro e w2 ⟨⟨n, rfl, n1, n2⟩, k2⟩; have K2 := Lib.hid (K1.out.trans k2); have q1 : IntKind.i64.wrap ((s.size : Int) + n) = s.size + n := IntWalk.i64_in _ (by have := Hs0.out; omega); have HN := Lib.hid (show (xs.length : Int) ≤ n from n1); clear k2 n1 n2 K1))
  · go_ret
    exact ⟨rfl, K2.out⟩
  have Hs := Lib.hid (show s.size ≤ 3000 by have := HN.out; omega)
  have hxs : xs.length ≤ 3000 := by have := HN.out; omega
  clear q1 HN Ha Hs0 hxl
  go_loopw [7, 8] (fun vt vi wr => ∃ (t : ByteArray) (k : Nat), k ≤ s.size ∧ vt = .string t ∧ vi = .int .i64 k ∧ Hid (WideAt s k t) ∧ Hid (Keeps (fun _ => False) w wr)) (fun _ vi _ => s.size - (intOf vi).toNat)
  case atStart => exact ⟨_, 0, Nat.zero_le _, rfl, rfl, Lib.hid rfl, K2⟩
  case round =>
    obtain ⟨t, k, hk, rfl, rfl, HW, HK⟩ := hrel
    clear K2
    have HD := Lib.hid (HK.out.drewN)
    have hs3 := Hs.out
    have hts : t.size ≤ 30004 := by have := HW.out.len hk; omega
    by_cases hlt : k < s.size
    · have hsz : (s.extract k (k + 1)).size = 1 := by simp; omega
      have hbk : s.data[k]? = some (s[k]'hlt) := by simp [ByteArray.getElem_eq_getElem_data, hlt]
      have hbe : ∀ h : k < s.size, s[k]'h = s[k]'hlt := fun _ => rfl
      have hext : k ≤ k + 1 ∧ k + 1 ≤ s.size := by omega
      by_cases h10 : s[k]'hlt = 10
      · have b10 : ∀ h : k < s.size, (((s[k]'h).toNat : Int) == 10) = true := by intro h; rw [hbe h, h10]; rfl
        have Hn := Lib.hid (HW.out.nextEnd (by rw [hbk, h10]))
        clear hbk hbe h10
        go_wp2
        go_roundw
        case rel => exact ⟨_, k + 1, by omega, rfl, by go_num, Hn, HK⟩
        case measure => simp [intOf]; omega
      · have b10 : ∀ h : k < s.size, (((s[k]'h).toNat : Int) == 10) = false := by
          intro h
          rw [hbe h]
          have : ¬ ((s[k]'hlt).toNat : Int) = 10 := fun e => h10 (byte_eq (n := 10) (by omega))
          simpa using this
        have Hn := Lib.hid (HW.out.next hbk h10)
        clear hbk hbe h10
        go_wp2
        go_roundw
        case rel => exact ⟨_, k + 1, by omega, rfl, by go_num, Hn, HK⟩
        case measure => simp [intOf]; omega
    · have hkl : k = s.size := by omega
      have Hac := Lib.hid (overCur_alike (rdAll_widen s t (by have q := HW.out; unfold WideAt at q; rw [q, List.take_of_length_le (by rw [len_bytes]; omega)])))
      have K3 := HK
      clear HD HW HK
      have Ht := Lib.hid hts
      clear hts
      go_wp2_with (first | (go_at_call 9; have _t0 := HC4.out; go_loud (refine (Over_calls t w4 (by have := Ht.out; omega) (HG.out _ K4.out).1 (HG.out _ K4.out).2).mono ?_; rintro e w5 ⟨b', ib', rfl, hb', hib', hcs', k5⟩; have K5 := Lib.hid (K4.out.trans k5); have HB' := Lib.hid (show w.heap.size ≤ b' ∧ b ≠ b' ∧ ib ≠ b' ∧ ib' ≠ b from by have := K4.out.size; have := HC4.out.lt; have := HB.out.2; omega); have HC5 := Lib.hid (HC4.out.keep0 k5); have HD5 := Lib.hid hcs'; clear hb' hib' hcs' k5 HC4)) | (go_at_call 9; go_loud (refine (Over_calls s wr (by have := Hs.out; omega) (HG.out _ K3.out).1 (HG.out _ K3.out).2).mono ?_; rintro e w4 ⟨b, ib0, rfl, hb, hib, hcs, k4⟩; obtain ⟨ib, hcs, hib⟩ := hcs.low (by have := (HG.out _ K3.out).2; omega); have K4 := Lib.hid (K3.out.trans k4); have HB := Lib.hid (show w.heap.size ≤ b ∧ ib < w4.heap.size from by have := K3.out.size; omega); have HC4 := Lib.hid hcs; clear hb hib hcs k4)))
      have HA0 := Lib.hid (show BAt w w5 b ib b' ib' (overCur s) (overCur t) from ⟨HC5.out, HD5.out, Hac.out, K5.out⟩)
      have HG5 := HG
      clear HC5 HD5 K4 K5 K3 Hac hkl hk hlt
      go_loopw [11] (fun vi wr => ∃ (k : Nat) (c d : Cur), k ≤ xs.length ∧ vi = .int .i64 k ∧ Hid (BAt w wr b ib b' ib' c d)) (fun vi _ => xs.length - (intOf vi).toNat)
      case atStart => exact ⟨0, _, _, Nat.zero_le _, rfl, HA0⟩
      case round =>
        obtain ⟨k, c, d, hk, rfl, HA2⟩ := hrel
        clear HA0
        by_cases hlt : k < xs.length
        · have hxk : xs[k]? = some xs[k] := by simp [hlt]
          obtain ⟨x0, x1, x2, x3, x4⟩ := (HX.out.keeps HA2.out.keep (by simp)) _ _ hxk
          obtain rfl := HA.out (List.length_pos_iff.1 (by omega))
          clear hxk
          generalize xs[k] = x at *
          obtain ⟨what, least, most, sx, tx⟩ := x
          simp only at x0 x1 x2 x3 x4
          go_wp2_with (first | (go_at_call 17; refine (alike_calls HA2.out.cs HA2.out.ds HB'.out.2.1 HB'.out.2.2.1 HB'.out.2.2.2 HA2.out.ac ⟨what, least, most, sx, tx⟩).mono ?_; rintro e w6 hp; have e1 := hp.1; subst e1; have HN := Lib.hid (HA2.out.next HB.out.1 HB'.out.1 hp); clear hp))
          go_roundw
          case rel => exact ⟨k + 1, _, _, by omega, by go_num, HN⟩
          case measure => simp [intOf]; omega
        · have HA3 := HA2
          clear HA2
          by_cases he : er = 0
          · subst he
            go_wp2_with (first | (go_at_call 18; refine (fail_calls HA3.out.cs 0).mono ?_; rintro e w7 ⟨rfl, h7, k7⟩; have H7 := Lib.hid h7; have K7 := Lib.hid (HA3.out.keep.trans' k7 (by have := HB.out.1; omega)); clear h7 k7 HA3) | (go_at_call 10; refine (Err_calls H7.out).mono ?_; rintro e w8 ⟨rfl, k8⟩; have H8 := Lib.hid (H7.out.keep0 k8); have K8 := Lib.hid (K7.out.trans k8); clear k8 K7 H7))
            go_ret
            exact ⟨rfl, K8.out⟩
          · have be : (er == 0) = false := by simpa using he
            have hw := fail_broken c he
            have Hw := Lib.hid hw
            have bf : ((c.fail er).wrong == 0) = false := by simpa using hw
            go_wp2_with (first | (go_at_call 18; have _t0 := H8.out; have m9 := fail_calls H8.out 2; rw [broken_fail Hw.out] at m9; refine m9.mono ?_; clear m9; rintro e w9 ⟨rfl, h9, k9⟩; have H9 := Lib.hid h9; have K9 := Lib.hid (K8.out.trans' k9 (by have := HB.out.1; omega)); clear h9 k9 H8 K8) | (go_at_call 10; have _t0 := H9.out; have mA := Err_calls H9.out; rw [broken_err Hw.out] at mA; refine mA.mono ?_; clear mA; rintro e wA ⟨rfl, kA⟩; have HA4 := Lib.hid (H9.out.keep0 kA); have K10 := Lib.hid (K9.out.trans kA); clear kA H9 K9) | (go_at_call 18; refine (fail_calls HA3.out.cs er).mono ?_; rintro e w7 ⟨rfl, h7, k7⟩; have H7 := Lib.hid h7; have K7 := Lib.hid (HA3.out.keep.trans' k7 (by have := HB.out.1; omega)); clear h7 k7 HA3) | (go_at_call 10; have mA := Err_calls H7.out; rw [broken_err Hw.out] at mA; refine mA.mono ?_; clear mA; rintro e w8 ⟨rfl, k8⟩; have H8 := Lib.hid (H7.out.keep0 k8); have K8 := Lib.hid (K7.out.trans k8); clear k8 K7 H7) | (go_at_call 11; have mA := more_calls HA4.out; rw [broken_more Hw.out] at mA; refine mA.mono ?_; clear mA; rintro e wB ⟨rfl, rfl⟩) | (go_at_call 13; have mA := name_calls HA4.out; rw [broken_name Hw.out] at mA; refine mA.mono ?_; clear mA; rintro e wC ⟨rfl, hC, kC⟩; have HC4 := Lib.hid hC; have K11 := Lib.hid (K10.out.trans' kC (by have := HB.out.1; omega)); clear hC kC HA4 K10) | (go_at_call 14; have mA := num_calls HC4.out 0 9; rw [broken_num Hw.out] at mA; refine mA.mono ?_; clear mA; rintro e wD ⟨rfl, hD, kD⟩; have HD4 := Lib.hid hD; have K12 := Lib.hid (K11.out.trans' kD (by have := HB.out.1; omega)); clear hD kD HC4 K11) | (go_at_call 15; have mA := Is_calls HD4.out ⟨#[61]⟩; rw [broken_is Hw.out] at mA; refine mA.mono ?_; clear mA; rintro e wE ⟨rfl, hE, kE⟩; have K13 := Lib.hid (K12.out.trans' kE (by have := HB.out.1; omega)); clear hE kE HD4 K12))
            go_ret
            exact ⟨rfl, K13.out⟩

end

end Go.Proofs.YtoibcaoaljglbaaDoor
