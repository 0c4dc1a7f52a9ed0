/-
  The walk of LineAll.
-/
import Derived.Test.YtoibcaoaljglbaaDoorLawA
import Derived.Test.YtoibcaoaljglbaaDoorLawB
namespace Go.Proofs.YtoibcaoaljglbaaDoor
open Go Go.RowKit Go.Proofs.YtoibcaoaljglbaaDoorW.PrintLast
set_option linter.unusedSimpArgs false

/-- the words lie in block g -/
def WordsAt (w : World) (g : Nat) (l : List Wd) : Prop := ∀ i x, l[i]? = some x → w.cell? ⟨g, i * 5, none⟩ = some (.int .i64 x.kind) ∧ w.cell? ⟨g, i * 5 + 1, none⟩ = some (.string x.text) ∧ w.cell? ⟨g, i * 5 + 2, none⟩ = some (.int .i64 x.n)

theorem WordsAt.keeps {S : Nat → Prop} {w w' : World} {g : Nat} {l : List Wd} (h : WordsAt w g l) (hk : Keeps S w w') (hs : ¬ S g) : WordsAt w' g l := by
  intro i x hi
  obtain ⟨h0, h1, h2⟩ := h i x hi
  exact ⟨hk.cell' h0 hs, hk.cell' h1 hs, hk.cell' h2 hs⟩

/-- the row of words, as it came out of word.Read -/
theorem words_at {w : World} {base b : Nat} {wA : Option Addr} {wc : Nat} {l : List Wd} (h : w.ownsRow base 33 5 (.slice wA l.length wc) l.length (wcells l)) (hb : w.heap.size ≤ b) :
    ∃ g, g ≠ b ∧ (l ≠ [] → wA = some ⟨g, 0, none⟩) ∧ WordsAt w g l := by
  cases l with
  | nil => exact ⟨b + 1, by omega, fun h => absurd rfl h, fun i x hi => by simp at hi⟩
  | cons y r =>
    obtain ⟨g, rfl, hg, h0, _⟩ := own_word h (i := 0) (x := y) rfl
    have hlt : g < w.heap.size := by
      rcases Nat.lt_or_ge g w.heap.size with q | q
      · exact q
      · simp [World.cell?, Array.getElem?_eq_none q] at h0
    refine ⟨g, by omega, fun _ => rfl, fun i x hi => ?_⟩
    obtain ⟨g', hA, _, a0, a1, a2, _⟩ := own_word h hi
    simp only [Option.some.injEq, Addr.mk.injEq, and_true] at hA
    subst hA
    exact ⟨a0, a1, a2⟩

/-- the loop's relation -/
structure LAt (w wr : World) (l : List Wd) (g b ib k : Nat) (o : Bool) (p : Option Item) : Prop where
  cs : CS wr b ib ⟨goIt o p ((l.drop k).map Wd.item), 0, 0, 0⟩
  words : WordsAt wr g l
  keep : Keeps (fun _ => False) w wr
  stop : ∀ z, p = some z → z.has.isStop = true
  shut : o = false → p = none
  first : o = true → 0 < k
  end_ : o = true → ∀ y, l[k - 1]? = some y → (p.isSome = true ↔ y.kind = 4)

theorem Wd.stop_iff {x : Wd} (h : x.Ok) : x.item.has.isStop = true ↔ x.kind = 4 := by
  obtain ⟨kind, text, n, line, col⟩ := x
  obtain ⟨h, _⟩ := h
  simp only at h
  rcases h with rfl | rfl | rfl | rfl <;> simp [Wd.item, Wd.has, Has.isStop]

/-- an end: nothing is got -/
theorem LAt.skip {w wr : World} {l : List Wd} {g b ib k : Nat} {o : Bool} {p : Option Item} {x : Wd} (h : LAt w wr l g b ib k o p) (hx : l[k]? = some x) (hs : x.item.has.isStop = true) (h4 : x.kind = 4) :
    LAt w wr l g b ib (k + 1) o (if o = true then p <|> some x.item else p) := by
  have hlt : k < l.length := (List.getElem?_eq_some_iff.1 hx).1
  have e : l.drop k = x :: l.drop (k + 1) := by
    rw [List.drop_eq_getElem_cons hlt, (List.getElem?_eq_some_iff.1 hx).2]
  obtain ⟨hc, hw, hk, h1, h2, h3, h5⟩ := h
  rw [e, List.map_cons] at hc
  refine ⟨?_, hw, hk, ?_, ?_, ?_, ?_⟩
  · cases o with
    | true => simpa [goIt, hs] using hc
    | false => simpa [goIt, hs] using hc
  · intro z hz
    cases o with
    | true =>
      cases p with
      | none => simp at hz; subst hz; exact hs
      | some q => simp at hz; subst hz; exact h1 _ rfl
    | false => simp at hz; exact h1 z hz
  · intro ho; subst ho; simpa using h2 rfl
  · intro _; omega
  · intro ho y hy
    subst ho
    rw [show k + 1 - 1 = k by omega, hx] at hy
    obtain rfl := Option.some.inj hy
    simp only [if_true]
    cases p <;> simp [h4]

/-- a word is got -/
theorem LAt.got {w wr w2 : World} {l : List Wd} {g b ib k : Nat} {o : Bool} {p : Option Item} {x : Wd} (h : LAt w wr l g b ib k o p) (hx : l[k]? = some x) (h4 : x.kind ≠ 4) (hgb : g ≠ b) (hwb : w.heap.size ≤ b)
    (hk2 : Keeps (fun i => i = b) wr w2) (hc : CS w2 b ib ⟨goIt true none ((l.drop (k + 1)).map Wd.item), 0, 0, 0⟩) : LAt w w2 l g b ib (k + 1) true none := by
  refine ⟨hc, h.words.keeps hk2 hgb, h.keep.trans' hk2 (by omega), by simp, by simp, by omega, ?_⟩
  intro _ y hy
  rw [show k + 1 - 1 = k by omega, hx] at hy
  obtain rfl := Option.some.inj hy
  simp [h4]

theorem fin_stop {z : Item} (hz : z.has.isStop = true) (l : List Item) : Cur.fin ⟨z :: l, 0, 0, 0⟩ = ⟨l, 0, 0, 0⟩ := by
  obtain ⟨a, b, has⟩ := z
  cases has with
  | stop =>
    unfold Cur.fin
    rw [if_pos (by rfl), if_pos (by rfl)]
    rfl
  | _ => cases hz

theorem bytes_beq (s t : ByteArray) : (s == t) = decide (s = t) := by
  obtain ⟨s⟩ := s
  obtain ⟨t⟩ := t
  show (s == t) = _
  by_cases h : s = t
  · subst h; simp
  · simp [h]

theorem eqb_self (s : ByteArray) : (s == s) = true := by rw [bytes_beq]; simp

theorem name_of {t : ByteArray} {n a c : Int} (l : List Item) : Cur.name ⟨Wd.item ⟨1, t, n, a, c⟩ :: l, 0, 0, 0⟩ = (t, ⟨l, 0, 0, 0⟩) := rfl

theorem num_of {t : ByteArray} {n a c : Int} (l : List Item) (h : -1099511627776 ≤ n ∧ n ≤ 1099511627776) : Cur.num ⟨Wd.item ⟨2, t, n, a, c⟩ :: l, 0, 0, 0⟩ (-1099511627776) 1099511627776 = (n, ⟨l, 0, 0, 0⟩) := by
  show (if n < -1099511627776 ∨ 1099511627776 < n then _ else _) = _
  rw [if_neg (by omega)]
  rfl

theorem mark_of {t : ByteArray} {n a c : Int} (l : List Item) : Cur.is ⟨Wd.item ⟨3, t, n, a, c⟩ :: l, 0, 0, 0⟩ (.mark t) = true ∧ Cur.isTo ⟨Wd.item ⟨3, t, n, a, c⟩ :: l, 0, 0, 0⟩ (.mark t) = ⟨l, 0, 0, 0⟩ := by
  have h : Cur.is ⟨Wd.item ⟨3, t, n, a, c⟩ :: l, 0, 0, 0⟩ (.mark t) = true := by
    show ((0 : Int) == 0 && (t == t)) = true
    rw [eqb_self]
    rfl
  refine ⟨h, ?_⟩
  unfold Cur.isTo
  rw [if_pos h]
  rfl

section
set_option maxRecDepth 100000
set_option maxHeartbeats 4000000

theorem CS.drew' {w : World} {b ib : Nat} {st : Cur} (h : CS w b ib st) : CS w.drew b ib st := h.keep0 (Keeps.drew (Keeps.refl _ _))

def LineAllPost (w : World) (e : Ending) (w' : World) : Prop := e = .returned (.bool true) ∧ Keeps (fun _ => False) w w'

theorem all_long (s : ByteArray) (w : World) (hG : Glob w) (h8 : 4 ≤ w.heap.size) (hs : 3000 < s.size) : Calls Tryd.prog 3 #[.string s] w (LineAllPost w) := by
  have Ha := Lib.hid (awake_calls w hG h8)
  have b0 : decide ((3000 : Int) < (s.size : Int)) = true := by simp; omega
  clear hG h8
  go_enter Tryd.func3, Tryd.ntmps3
  go_wp2_with (first | (go_at_call 7; refine Ha.out.mono ?_; rintro e w1 ⟨rfl, k1⟩; have K1 := Lib.hid k1; clear k1))
  go_ret
  exact ⟨rfl, K1.out⟩

theorem over_ok {s : ByteArray} {w : World} (hs : s.size ≤ 3000) (hG : Glob w) (h8 : 4 ≤ w.heap.size) : Calls Tryd.prog 9 #[.string s] w (OverPost s w) := Over_calls s w (by omega) hG h8

theorem all_bad (s : ByteArray) (w : World) (hG : Glob w) (h8 : 4 ≤ w.heap.size) (hs : s.size ≤ 3000) (hw : (wordRead s).2.2.2 ≠ 0) : Calls Tryd.prog 3 #[.string s] w (LineAllPost w) := by
  have Ha := Lib.hid (awake_calls w hG h8)
  have b0 : decide ((3000 : Int) < (s.size : Int)) = false := by simp; omega
  have b1 : ((wordRead s).2.2.2 != 0) = true := by simpa using hw
  have hcur : overCur s = ⟨[], (wordRead s).2.2.2, (wordRead s).2.1, (wordRead s).2.2.1⟩ := by unfold overCur; rw [if_neg hw]
  have herr : (overCur s).err = ((wordRead s).2.1, (wordRead s).2.2.1, (wordRead s).2.2.2) := by
    rw [hcur]
    unfold Cur.err
    rw [if_neg hw]
  have hmore : (overCur s).more = false := by
    rw [hcur]
    unfold Cur.more
    simp
  have Herr := Lib.hid herr
  have Hmore := Lib.hid hmore
  have HG := Lib.hid (fun (w' : World) (hk : Keeps (fun _ => False) w w') => (show Glob w' ∧ 4 ≤ w'.heap.size from ⟨hG.keeps hk (by simp), by have := hk.size; omega⟩))
  have Hs := Lib.hid hs
  clear hG h8 hw hcur herr hmore hs
  go_enter Tryd.func3, Tryd.ntmps3
  go_wp2_with (first | (go_at_call 7; refine Ha.out.mono ?_; rintro e w1 ⟨rfl, k1⟩; have K1 := Lib.hid k1; clear k1) | (go_at_call 8; refine (read_calls s w1 (by have := Hs.out; omega) (HG.out w1 K1.out).1 (HG.out w1 K1.out).2).mono ?_; rintro e w2 ⟨wA, wc, rfl, _, k2⟩; have K2 := Lib.hid (K1.out.trans k2); clear k2) | (go_at_call 9; refine (over_ok Hs.out (HG.out w2 K2.out).1 (HG.out w2 K2.out).2).mono ?_; rintro e w3 ⟨b, ib, rfl, _, _, hcs, k3⟩; have HC := Lib.hid hcs; have K3 := Lib.hid (K2.out.trans k3); clear k3 hcs) | (go_at_call 10; have m4 := Err_calls HC.out; rw [Herr.out] at m4; refine m4.mono ?_; clear m4; rintro e w4 ⟨rfl, k4⟩; have m5 := more_calls (HC.out.keep0 k4); rw [Hmore.out] at m5; have Hm := Lib.hid m5; have K4 := Lib.hid (K3.out.trans k4); clear k4 m5) | (go_at_call 11; refine Hm.out.mono ?_; rintro e w5 ⟨rfl, rfl⟩))
  go_ret
  exact ⟨rfl, K4.out⟩

theorem all_ok (s : ByteArray) (w : World) (hG : Glob w) (h8 : 4 ≤ w.heap.size) (hs : s.size ≤ 3000) (hw : (wordRead s).2.2.2 = 0) : Calls Tryd.prog 3 #[.string s] w (LineAllPost w) := by
  have Ha := Lib.hid (awake_calls w hG h8)
  have b0 : decide ((3000 : Int) < (s.size : Int)) = false := by simp; omega
  have b1 : ((wordRead s).2.2.2 != 0) = false := by simpa using hw
  have hcur : overCur s = ⟨overItems (wordRead s).1, 0, 0, 0⟩ := by unfold overCur; rw [if_pos hw]
  rw [overItems_go] at hcur
  have Hcur := Lib.hid hcur
  have HG := Lib.hid (fun (w' : World) (hk : Keeps (fun _ => False) w w') => (show Glob w' ∧ 4 ≤ w'.heap.size from ⟨hG.keeps hk (by simp), by have := hk.size; omega⟩))
  have Hs := Lib.hid hs
  have hlen : (wordRead s).1.length ≤ 3000000000 := read_len s (by omega)
  have Hok := Lib.hid (wordRead_ok s)
  clear hG h8 hw hcur hs
  go_enter Tryd.func3, Tryd.ntmps3
  go_wp2_with (first | (go_at_call 7; refine Ha.out.mono ?_; rintro e w1 ⟨rfl, k1⟩; have K1 := Lib.hid k1; clear k1) | (go_at_call 8; refine (read_calls s w1 (by have := Hs.out; omega) (HG.out w1 K1.out).1 (HG.out w1 K1.out).2).mono ?_; rintro e w2 ⟨wA, wc, rfl, ho, k2⟩; have Ho := Lib.hid ho; have K2 := Lib.hid (K1.out.trans k2); clear k2 ho) | (go_at_call 9; refine (over_ok Hs.out (HG.out w2 K2.out).1 (HG.out w2 K2.out).2).mono ?_; rintro e w3 ⟨b, ib, rfl, hb, hib, hcs, k3⟩; rw [Hcur.out] at hcs; have HC := Lib.hid hcs; have K3 := Lib.hid (K2.out.trans k3); have K23 := Lib.hid k3; have HB := Lib.hid hb; clear k3 hcs hib hb))
  obtain ⟨g, hgb, hg, hwd⟩ := words_at Ho.out HB.out
  have hwb : w.heap.size ≤ b := by
    have := HB.out
    have := K2.out.size
    omega
  have Hst := Lib.hid (show LAt w w3 (wordRead s).1 g b ib 0 false none from ⟨by have := HC.out; simpa using this, hwd.keeps K23.out (by simp), K3.out, by simp, by simp, by simp, by simp⟩)
  have Hg := Lib.hid hg
  clear HC HB K23 K3 K2 Ho hwd Hcur Ha HG Hs hg b0 b1 K1
  generalize (wordRead s).1 = l at *
  go_loopw [11, 12] (fun vo v wr => ∃ (k : Nat) (o : Bool) (p : Option Item), k ≤ l.length ∧ vo = .bool o ∧ v = .int .i64 k ∧ Hid (LAt w wr l g b ib k o p)) (fun _ v _ => l.length - (intOf v).toNat)
  case atStart => exact ⟨0, false, none, Nat.zero_le _, rfl, rfl, Hst⟩
  case round =>
    obtain ⟨k, o, p, hk, rfl, rfl, HA⟩ := hrel
    clear Hst
    by_cases hlt : k < l.length
    · have hx : l[k]? = some l[k] := by simp [hlt]
      have hok := Hok.out _ (List.getElem_mem hlt)
      obtain rfl := Hg.out (List.length_pos_iff.1 (by omega))
      obtain ⟨x0, x1, x2⟩ := HA.out.words _ _ hx
      have e0 : l.drop k = l[k] :: l.drop (k + 1) := List.drop_eq_getElem_cons hlt
      have E0 := Lib.hid e0
      have Hx := Lib.hid hx
      clear e0 hx
      generalize l[k] = x at *
      by_cases h4 : x.kind = 4
      · have hst := HA.out.skip Hx.out ((Wd.stop_iff hok).2 h4) h4
        rw [h4] at x0
        have Hn := Lib.hid hst
        clear h4 hst hok x1 x2
        go_wp2
        go_roundw
        case rel => exact ⟨k + 1, o, _, by omega, rfl, by go_num, Hn⟩
        case measure => simp [intOf]; omega
      · have H4 := Lib.hid h4
        have b4 : (x.kind == 4) = false := by simpa using h4
        obtain ⟨kind, text, n, line, col⟩ := x
        have hcs := HA.out.cs
        rw [E0.out, List.map_cons] at hcs
        have hns : (Wd.item ⟨kind, text, n, line, col⟩).has.isStop = false := by
          cases hq : (Wd.item ⟨kind, text, n, line, col⟩).has.isStop with
          | false => rfl
          | true => exact absurd ((Wd.stop_iff hok).1 hq) h4
        have hgo : ∀ o p, goIt o p (Wd.item ⟨kind, text, n, line, col⟩ :: (l.drop (k + 1)).map Wd.item) = p.toList ++ Wd.item ⟨kind, text, n, line, col⟩ :: goIt true none ((l.drop (k + 1)).map Wd.item) := by
          intro o p
          show (if _ then _ else _) = _
          rw [if_neg (by rw [hns]; decide)]
        rw [hgo] at hcs
        have hfin := fun w2 hk2 hc => HA.out.got (w2 := w2) Hx.out h4 hgb hwb hk2 hc
        have Hfin := Lib.hid hfin
        generalize goIt true none ((l.drop (k + 1)).map Wd.item) = rest at *
        simp only at x0 x1 x2 h4 b4
        have Hcs := Lib.hid hcs
        have hsh := HA.out.shut
        have hfst := HA.out.first
        have hend := HA.out.end_
        have hzs := HA.out.stop
        have hwds := Lib.hid HA.out.words
        clear hcs hns hgo hfin HA E0 Hx h4
        have Hgb := Lib.hid hgb
        obtain ⟨hok, hnum⟩ := hok
        simp only at hok hnum
        have Hnum := Lib.hid hnum
        clear hnum
        have hok3 : kind = 1 ∨ kind = 2 ∨ kind = 3 := by have := H4.out; simp only at this; omega
        clear H4 hok
        cases o with
        | false =>
          obtain rfl := hsh rfl
          clear hsh hfst hend hzs
          have Hcs := Lib.hid (show CS wr b ib ⟨Wd.item ⟨kind, text, n, line, col⟩ :: rest, 0, 0, 0⟩ from Hcs.out)
          rcases hok3 with rfl | rfl | rfl
          · go_wp2_with fail
            refine start_ (n := 9) (S := (fun w' => w'.cell? ⟨g, k * 5 + 1, none⟩ = some (.string text))) (ds := []) #[false, false, false, false, false, false, false, false, false] (by kernel_rfl) rfl rfl (by exact x1) (fun hHeld => ?_)
            refine pure_ (i := 0) (N := some 99) (v := ?_) (a' := ?_) #[true, false, false, false, false, false, false, false, false] rfl rfl (by kernel_rfl) (fun _ _ _ h => h) (Or.inl ⟨by rfl, ?_⟩) ?_ ?_
            rotate_left
            · intro w'
              go_simp
              with_reducible rfl
            rotate_left
            · simp only [Act.put, List.setIfInBounds_toArray, List.set_cons_zero, List.set_cons_succ]
              rfl
            refine pure_ (i := 2) (N := some 101) (v := ?_) (a' := ?_) #[true, false, true, false, false, false, false, false, false] rfl rfl (by kernel_rfl) (fun _ _ _ h => h) (Or.inl ⟨by rfl, ?_⟩) ?_ ?_
            rotate_left
            · intro w'
              go_simp
              with_reducible rfl
            rotate_left
            · simp only [Act.put, List.setIfInBounds_toArray, List.set_cons_zero, List.set_cons_succ]
              rfl
            refine pure_ (i := 3) (N := some 102) (v := ?_) (a' := ?_) #[true, false, true, true, false, false, false, false, false] rfl rfl (by kernel_rfl) (fun _ _ _ h => h) (Or.inl ⟨by rfl, ?_⟩) ?_ ?_
            rotate_left
            · intro w'
              go_simp
              with_reducible rfl
            rotate_left
            · simp only [Act.put, List.setIfInBounds_toArray, List.set_cons_zero, List.set_cons_succ]
              rfl
            refine pure_ (i := 4) (N := some 103) (v := ?_) (a' := ?_) #[true, false, true, true, true, false, false, false, false] rfl rfl (by kernel_rfl) (fun _ _ _ h => h) (Or.inl ⟨by rfl, ?_⟩) ?_ ?_
            rotate_left
            · intro w'
              go_simp
              with_reducible rfl
            rotate_left
            · simp only [Act.put, List.setIfInBounds_toArray, List.set_cons_zero, List.set_cons_succ]
              rfl
            refine pure_ (i := 5) (N := some 104) (v := ?_) (a' := ?_) #[true, false, true, true, true, true, false, false, false] rfl rfl (by kernel_rfl) (fun _ _ _ h => h) (Or.inl ⟨by rfl, ?_⟩) ?_ ?_
            rotate_left
            · intro w'
              go_simp
              with_reducible rfl
            rotate_left
            · simp only [Act.put, List.setIfInBounds_toArray, List.set_cons_zero, List.set_cons_succ]
              rfl
            refine take_ (i := 6) (N := some 105) (v := ?_) (a' := ?_) #[true, false, true, true, true, true, true, false, false] rfl rfl (by kernel_rfl) (fun _ _ _ h => h) (Or.inl ⟨by rfl, ?_⟩) hHeld ?_ ?_
            rotate_left
            · intro w' hSw
              have hs0 := hSw
              go_simp
              with_reducible rfl
            rotate_left
            · simp only [Act.put, List.setIfInBounds_toArray, List.set_cons_zero, List.set_cons_succ]
              rfl
            refine one_ (i := 1) (N := some 100) #[true, true, true, true, true, true, true, false, false] rfl rfl (by kernel_rfl) (by decide) (fun K hK => ?_)
            refine goes_ (f := 13) Tryd.func13 (by kernel_rfl) rfl #[.pointer (some ⟨b, 0, none⟩)] (by rfl) rfl rfl (by simp only [List.map_toArray, List.map_cons, List.map_nil]; rfl) ?_
            refine (name_calls (CS.drew' Hcs.out)).mono ?_
            rw [name_of]
            rintro e w5 ⟨rfl, c5, k5⟩
            refine ⟨_, rfl, ?_⟩
            have kk5 := (Keeps.drew (Keeps.refl (fun i => i = b) wr)).trans k5
            refine hK.out _ _ (k5.cell' (p := ⟨g, k * 5 + 1, none⟩) hHeld Hgb.out) (fun hHeld => ?_)
            clear hK K
            refine norm_ (a' := ?na1001) ?nb1001 ?nc1001
            case nb1001 =>
              simp only [Act.put, List.setIfInBounds_toArray, List.set_cons_zero, List.set_cons_succ]
              rfl
            refine pure_ (i := 7) (N := some 106) (v := ?_) (a' := ?_) #[true, true, true, true, true, true, true, true, false] rfl rfl (by kernel_rfl) (fun _ _ _ h => h) (Or.inl ⟨by rfl, ?_⟩) ?_ ?_
            rotate_left
            · intro w'
              go_simp
              with_reducible rfl
            rotate_left
            · simp only [Act.put, List.setIfInBounds_toArray, List.set_cons_zero, List.set_cons_succ]
              rfl
            refine pure_ (i := 8) (N := some 13) (v := ?_) (a' := ?_) #[true, true, true, true, true, true, true, true, true] rfl rfl (by kernel_rfl) (fun _ _ _ h => h) (Or.inl ⟨by rfl, ?_⟩) ?_ ?_
            rotate_left
            · intro w'
              go_simp
              with_reducible rfl
            rotate_left
            · simp only [Act.put, List.setIfInBounds_toArray, List.set_cons_zero, List.set_cons_succ]
              rfl
            refine done_ (by kernel_rfl) ?_
            have HF := Lib.hid (Hfin.out _ kk5 c5)
            clear hHeld kk5 c5 k5 x0 x1 x2
            have be := eqb_self text
            go_wp2
            go_roundw
            case rel => exact ⟨k + 1, true, none, by omega, rfl, by go_num, HF⟩
            case measure => simp [intOf]; omega
          · have hn0 := Lib.hid (Hnum.out rfl)
            go_wp2_with fail
            refine start_ (n := 9) (S := (fun w' => w'.cell? ⟨g, k * 5 + 2, none⟩ = some (.int .i64 n))) (ds := []) #[false, false, false, false, false, false, false, false, false] (by kernel_rfl) rfl rfl (by exact x2) (fun hHeld => ?_)
            refine pure_ (i := 0) (N := some 109) (v := ?_) (a' := ?_) #[true, false, false, false, false, false, false, false, false] rfl rfl (by kernel_rfl) (fun _ _ _ h => h) (Or.inl ⟨by rfl, ?_⟩) ?_ ?_
            rotate_left
            · intro w'
              go_simp
              with_reducible rfl
            rotate_left
            · simp only [Act.put, List.setIfInBounds_toArray, List.set_cons_zero, List.set_cons_succ]
              rfl
            refine pure_ (i := 2) (N := some 111) (v := ?_) (a' := ?_) #[true, false, true, false, false, false, false, false, false] rfl rfl (by kernel_rfl) (fun _ _ _ h => h) (Or.inl ⟨by rfl, ?_⟩) ?_ ?_
            rotate_left
            · intro w'
              go_simp
              with_reducible rfl
            rotate_left
            · simp only [Act.put, List.setIfInBounds_toArray, List.set_cons_zero, List.set_cons_succ]
              rfl
            refine pure_ (i := 3) (N := some 112) (v := ?_) (a' := ?_) #[true, false, true, true, false, false, false, false, false] rfl rfl (by kernel_rfl) (fun _ _ _ h => h) (Or.inl ⟨by rfl, ?_⟩) ?_ ?_
            rotate_left
            · intro w'
              go_simp
              with_reducible rfl
            rotate_left
            · simp only [Act.put, List.setIfInBounds_toArray, List.set_cons_zero, List.set_cons_succ]
              rfl
            refine pure_ (i := 4) (N := some 113) (v := ?_) (a' := ?_) #[true, false, true, true, true, false, false, false, false] rfl rfl (by kernel_rfl) (fun _ _ _ h => h) (Or.inl ⟨by rfl, ?_⟩) ?_ ?_
            rotate_left
            · intro w'
              go_simp
              with_reducible rfl
            rotate_left
            · simp only [Act.put, List.setIfInBounds_toArray, List.set_cons_zero, List.set_cons_succ]
              rfl
            refine pure_ (i := 5) (N := some 114) (v := ?_) (a' := ?_) #[true, false, true, true, true, true, false, false, false] rfl rfl (by kernel_rfl) (fun _ _ _ h => h) (Or.inl ⟨by rfl, ?_⟩) ?_ ?_
            rotate_left
            · intro w'
              go_simp
              with_reducible rfl
            rotate_left
            · simp only [Act.put, List.setIfInBounds_toArray, List.set_cons_zero, List.set_cons_succ]
              rfl
            refine take_ (i := 6) (N := some 115) (v := ?_) (a' := ?_) #[true, false, true, true, true, true, true, false, false] rfl rfl (by kernel_rfl) (fun _ _ _ h => h) (Or.inl ⟨by rfl, ?_⟩) hHeld ?_ ?_
            rotate_left
            · intro w' hSw
              have hs0 := hSw
              go_simp
              with_reducible rfl
            rotate_left
            · simp only [Act.put, List.setIfInBounds_toArray, List.set_cons_zero, List.set_cons_succ]
              rfl
            refine one_ (i := 1) (N := some 110) #[true, true, true, true, true, true, true, false, false] rfl rfl (by kernel_rfl) (by decide) (fun K hK => ?_)
            refine goes_ (f := 14) Tryd.func14 (by kernel_rfl) rfl #[.pointer (some ⟨b, 0, none⟩), .int .i64 (-1099511627776), .int .i64 1099511627776] (by rfl) rfl rfl (by simp only [List.map_toArray, List.map_cons, List.map_nil]; rfl) ?_
            refine (num_calls (CS.drew' Hcs.out) (-1099511627776) 1099511627776).mono ?_
            rw [num_of rest hn0.out]
            rintro e w5 ⟨rfl, c5, k5⟩
            refine ⟨_, rfl, ?_⟩
            have kk5 := (Keeps.drew (Keeps.refl (fun i => i = b) wr)).trans k5
            refine hK.out _ _ (k5.cell' (p := ⟨g, k * 5 + 2, none⟩) hHeld Hgb.out) (fun hHeld => ?_)
            clear hK K
            refine norm_ (a' := ?na2001) ?nb2001 ?nc2001
            case nb2001 =>
              simp only [Act.put, List.setIfInBounds_toArray, List.set_cons_zero, List.set_cons_succ]
              rfl
            refine pure_ (i := 7) (N := some 116) (v := ?_) (a' := ?_) #[true, true, true, true, true, true, true, true, false] rfl rfl (by kernel_rfl) (fun _ _ _ h => h) (Or.inl ⟨by rfl, ?_⟩) ?_ ?_
            rotate_left
            · intro w'
              go_simp
              with_reducible rfl
            rotate_left
            · simp only [Act.put, List.setIfInBounds_toArray, List.set_cons_zero, List.set_cons_succ]
              rfl
            refine pure_ (i := 8) (N := some 13) (v := ?_) (a' := ?_) #[true, true, true, true, true, true, true, true, true] rfl rfl (by kernel_rfl) (fun _ _ _ h => h) (Or.inl ⟨by rfl, ?_⟩) ?_ ?_
            rotate_left
            · intro w'
              go_simp
              with_reducible rfl
            rotate_left
            · simp only [Act.put, List.setIfInBounds_toArray, List.set_cons_zero, List.set_cons_succ]
              rfl
            refine done_ (by kernel_rfl) ?_
            have HF := Lib.hid (Hfin.out _ kk5 c5)
            clear hHeld kk5 c5 k5 x0 x1 x2
            go_wp2
            go_roundw
            case rel => exact ⟨k + 1, true, none, by omega, rfl, by go_num, HF⟩
            case measure => simp [intOf]; omega
          · go_wp2_with (first | (go_at_call 15; go_loud (have m5 := Is_calls Hcs.out text; rw [(mark_of rest).1, (mark_of rest).2] at m5; refine m5.mono ?_; clear m5; rintro e w5 ⟨rfl, c5, k5⟩; have HF := Lib.hid (Hfin.out _ ((Keeps.refl (fun i => i = b) wr).trans k5) c5); clear c5 k5)))
            go_roundw
            case rel => exact ⟨k + 1, true, none, by omega, rfl, by go_num, HF⟩
            case measure => simp [intOf]; omega
        | true =>
          have hpos := hfst rfl
          have hy : l[k - 1]? = some l[k - 1] := by rw [List.getElem?_eq_getElem]
          have hiff := hend rfl _ hy
          obtain ⟨y0, _, _⟩ := hwds.out _ _ hy
          clear hy hsh hfst hend
          generalize l[k - 1] = y at *
          have q0 : decide ((0 : Int) < (k : Int)) = true := by simp; omega
          have q1 : IntKind.i64.wrap ((k : Int) - 1) = (k : Int) - 1 := IntWalk.i64_in _ (by omega)
          have q2 : (0 : Int) ≤ (k : Int) - 1 := by omega
          have q2' : (1 : Int) ≤ (k : Int) := by omega
          have q3 : ((k : Int) - 1).toNat = k - 1 := by omega
          have q4 : (k : Int) - 1 < (l.length : Int) := by omega
          have q5 : (0 : Int) < (k : Int) := by omega
          cases p with
          | none =>
            have by4 : (y.kind == 4) = false := by
              have : ¬ y.kind = 4 := fun h => by simpa using hiff.2 h
              simpa using this
            clear hiff hzs
            have Hcs := Lib.hid (show CS wr b ib ⟨Wd.item ⟨kind, text, n, line, col⟩ :: rest, 0, 0, 0⟩ from Hcs.out)
            rcases hok3 with rfl | rfl | rfl
            · go_wp2_with fail
              refine start_ (n := 9) (S := (fun w' => w'.cell? ⟨g, k * 5 + 1, none⟩ = some (.string text))) (ds := []) #[false, false, false, false, false, false, false, false, false] (by kernel_rfl) rfl rfl (by exact x1) (fun hHeld => ?_)
              refine pure_ (i := 0) (N := some 99) (v := ?_) (a' := ?_) #[true, false, false, false, false, false, false, false, false] rfl rfl (by kernel_rfl) (fun _ _ _ h => h) (Or.inl ⟨by rfl, ?_⟩) ?_ ?_
              rotate_left
              · intro w'
                go_simp
                with_reducible rfl
              rotate_left
              · simp only [Act.put, List.setIfInBounds_toArray, List.set_cons_zero, List.set_cons_succ]
                rfl
              refine pure_ (i := 2) (N := some 101) (v := ?_) (a' := ?_) #[true, false, true, false, false, false, false, false, false] rfl rfl (by kernel_rfl) (fun _ _ _ h => h) (Or.inl ⟨by rfl, ?_⟩) ?_ ?_
              rotate_left
              · intro w'
                go_simp
                with_reducible rfl
              rotate_left
              · simp only [Act.put, List.setIfInBounds_toArray, List.set_cons_zero, List.set_cons_succ]
                rfl
              refine pure_ (i := 3) (N := some 102) (v := ?_) (a' := ?_) #[true, false, true, true, false, false, false, false, false] rfl rfl (by kernel_rfl) (fun _ _ _ h => h) (Or.inl ⟨by rfl, ?_⟩) ?_ ?_
              rotate_left
              · intro w'
                go_simp
                with_reducible rfl
              rotate_left
              · simp only [Act.put, List.setIfInBounds_toArray, List.set_cons_zero, List.set_cons_succ]
                rfl
              refine pure_ (i := 4) (N := some 103) (v := ?_) (a' := ?_) #[true, false, true, true, true, false, false, false, false] rfl rfl (by kernel_rfl) (fun _ _ _ h => h) (Or.inl ⟨by rfl, ?_⟩) ?_ ?_
              rotate_left
              · intro w'
                go_simp
                with_reducible rfl
              rotate_left
              · simp only [Act.put, List.setIfInBounds_toArray, List.set_cons_zero, List.set_cons_succ]
                rfl
              refine pure_ (i := 5) (N := some 104) (v := ?_) (a' := ?_) #[true, false, true, true, true, true, false, false, false] rfl rfl (by kernel_rfl) (fun _ _ _ h => h) (Or.inl ⟨by rfl, ?_⟩) ?_ ?_
              rotate_left
              · intro w'
                go_simp
                with_reducible rfl
              rotate_left
              · simp only [Act.put, List.setIfInBounds_toArray, List.set_cons_zero, List.set_cons_succ]
                rfl
              refine take_ (i := 6) (N := some 105) (v := ?_) (a' := ?_) #[true, false, true, true, true, true, true, false, false] rfl rfl (by kernel_rfl) (fun _ _ _ h => h) (Or.inl ⟨by rfl, ?_⟩) hHeld ?_ ?_
              rotate_left
              · intro w' hSw
                have hs0 := hSw
                go_simp
                with_reducible rfl
              rotate_left
              · simp only [Act.put, List.setIfInBounds_toArray, List.set_cons_zero, List.set_cons_succ]
                rfl
              refine one_ (i := 1) (N := some 100) #[true, true, true, true, true, true, true, false, false] rfl rfl (by kernel_rfl) (by decide) (fun K hK => ?_)
              refine goes_ (f := 13) Tryd.func13 (by kernel_rfl) rfl #[.pointer (some ⟨b, 0, none⟩)] (by rfl) rfl rfl (by simp only [List.map_toArray, List.map_cons, List.map_nil]; rfl) ?_
              refine (name_calls (CS.drew' Hcs.out)).mono ?_
              rw [name_of]
              rintro e w5 ⟨rfl, c5, k5⟩
              refine ⟨_, rfl, ?_⟩
              have kk5 := (Keeps.drew (Keeps.refl (fun i => i = b) wr)).trans k5
              refine hK.out _ _ (k5.cell' (p := ⟨g, k * 5 + 1, none⟩) hHeld Hgb.out) (fun hHeld => ?_)
              clear hK K
              refine norm_ (a' := ?na3001) ?nb3001 ?nc3001
              case nb3001 =>
                simp only [Act.put, List.setIfInBounds_toArray, List.set_cons_zero, List.set_cons_succ]
                rfl
              refine pure_ (i := 7) (N := some 106) (v := ?_) (a' := ?_) #[true, true, true, true, true, true, true, true, false] rfl rfl (by kernel_rfl) (fun _ _ _ h => h) (Or.inl ⟨by rfl, ?_⟩) ?_ ?_
              rotate_left
              · intro w'
                go_simp
                with_reducible rfl
              rotate_left
              · simp only [Act.put, List.setIfInBounds_toArray, List.set_cons_zero, List.set_cons_succ]
                rfl
              refine pure_ (i := 8) (N := some 13) (v := ?_) (a' := ?_) #[true, true, true, true, true, true, true, true, true] rfl rfl (by kernel_rfl) (fun _ _ _ h => h) (Or.inl ⟨by rfl, ?_⟩) ?_ ?_
              rotate_left
              · intro w'
                go_simp
                with_reducible rfl
              rotate_left
              · simp only [Act.put, List.setIfInBounds_toArray, List.set_cons_zero, List.set_cons_succ]
                rfl
              refine done_ (by kernel_rfl) ?_
              have HF := Lib.hid (Hfin.out _ kk5 c5)
              clear hHeld kk5 c5 k5 x0 x1 x2
              have be := eqb_self text
              go_wp2
              go_roundw
              case rel => exact ⟨k + 1, true, none, by omega, rfl, by go_num, HF⟩
              case measure => simp [intOf]; omega
            · have hn0 := Lib.hid (Hnum.out rfl)
              go_wp2_with fail
              refine start_ (n := 9) (S := (fun w' => w'.cell? ⟨g, k * 5 + 2, none⟩ = some (.int .i64 n))) (ds := []) #[false, false, false, false, false, false, false, false, false] (by kernel_rfl) rfl rfl (by exact x2) (fun hHeld => ?_)
              refine pure_ (i := 0) (N := some 109) (v := ?_) (a' := ?_) #[true, false, false, false, false, false, false, false, false] rfl rfl (by kernel_rfl) (fun _ _ _ h => h) (Or.inl ⟨by rfl, ?_⟩) ?_ ?_
              rotate_left
              · intro w'
                go_simp
                with_reducible rfl
              rotate_left
              · simp only [Act.put, List.setIfInBounds_toArray, List.set_cons_zero, List.set_cons_succ]
                rfl
              refine pure_ (i := 2) (N := some 111) (v := ?_) (a' := ?_) #[true, false, true, false, false, false, false, false, false] rfl rfl (by kernel_rfl) (fun _ _ _ h => h) (Or.inl ⟨by rfl, ?_⟩) ?_ ?_
              rotate_left
              · intro w'
                go_simp
                with_reducible rfl
              rotate_left
              · simp only [Act.put, List.setIfInBounds_toArray, List.set_cons_zero, List.set_cons_succ]
                rfl
              refine pure_ (i := 3) (N := some 112) (v := ?_) (a' := ?_) #[true, false, true, true, false, false, false, false, false] rfl rfl (by kernel_rfl) (fun _ _ _ h => h) (Or.inl ⟨by rfl, ?_⟩) ?_ ?_
              rotate_left
              · intro w'
                go_simp
                with_reducible rfl
              rotate_left
              · simp only [Act.put, List.setIfInBounds_toArray, List.set_cons_zero, List.set_cons_succ]
                rfl
              refine pure_ (i := 4) (N := some 113) (v := ?_) (a' := ?_) #[true, false, true, true, true, false, false, false, false] rfl rfl (by kernel_rfl) (fun _ _ _ h => h) (Or.inl ⟨by rfl, ?_⟩) ?_ ?_
              rotate_left
              · intro w'
                go_simp
                with_reducible rfl
              rotate_left
              · simp only [Act.put, List.setIfInBounds_toArray, List.set_cons_zero, List.set_cons_succ]
                rfl
              refine pure_ (i := 5) (N := some 114) (v := ?_) (a' := ?_) #[true, false, true, true, true, true, false, false, false] rfl rfl (by kernel_rfl) (fun _ _ _ h => h) (Or.inl ⟨by rfl, ?_⟩) ?_ ?_
              rotate_left
              · intro w'
                go_simp
                with_reducible rfl
              rotate_left
              · simp only [Act.put, List.setIfInBounds_toArray, List.set_cons_zero, List.set_cons_succ]
                rfl
              refine take_ (i := 6) (N := some 115) (v := ?_) (a' := ?_) #[true, false, true, true, true, true, true, false, false] rfl rfl (by kernel_rfl) (fun _ _ _ h => h) (Or.inl ⟨by rfl, ?_⟩) hHeld ?_ ?_
              rotate_left
              · intro w' hSw
                have hs0 := hSw
                go_simp
                with_reducible rfl
              rotate_left
              · simp only [Act.put, List.setIfInBounds_toArray, List.set_cons_zero, List.set_cons_succ]
                rfl
              refine one_ (i := 1) (N := some 110) #[true, true, true, true, true, true, true, false, false] rfl rfl (by kernel_rfl) (by decide) (fun K hK => ?_)
              refine goes_ (f := 14) Tryd.func14 (by kernel_rfl) rfl #[.pointer (some ⟨b, 0, none⟩), .int .i64 (-1099511627776), .int .i64 1099511627776] (by rfl) rfl rfl (by simp only [List.map_toArray, List.map_cons, List.map_nil]; rfl) ?_
              refine (num_calls (CS.drew' Hcs.out) (-1099511627776) 1099511627776).mono ?_
              rw [num_of rest hn0.out]
              rintro e w5 ⟨rfl, c5, k5⟩
              refine ⟨_, rfl, ?_⟩
              have kk5 := (Keeps.drew (Keeps.refl (fun i => i = b) wr)).trans k5
              refine hK.out _ _ (k5.cell' (p := ⟨g, k * 5 + 2, none⟩) hHeld Hgb.out) (fun hHeld => ?_)
              clear hK K
              refine norm_ (a' := ?na4001) ?nb4001 ?nc4001
              case nb4001 =>
                simp only [Act.put, List.setIfInBounds_toArray, List.set_cons_zero, List.set_cons_succ]
                rfl
              refine pure_ (i := 7) (N := some 116) (v := ?_) (a' := ?_) #[true, true, true, true, true, true, true, true, false] rfl rfl (by kernel_rfl) (fun _ _ _ h => h) (Or.inl ⟨by rfl, ?_⟩) ?_ ?_
              rotate_left
              · intro w'
                go_simp
                with_reducible rfl
              rotate_left
              · simp only [Act.put, List.setIfInBounds_toArray, List.set_cons_zero, List.set_cons_succ]
                rfl
              refine pure_ (i := 8) (N := some 13) (v := ?_) (a' := ?_) #[true, true, true, true, true, true, true, true, true] rfl rfl (by kernel_rfl) (fun _ _ _ h => h) (Or.inl ⟨by rfl, ?_⟩) ?_ ?_
              rotate_left
              · intro w'
                go_simp
                with_reducible rfl
              rotate_left
              · simp only [Act.put, List.setIfInBounds_toArray, List.set_cons_zero, List.set_cons_succ]
                rfl
              refine done_ (by kernel_rfl) ?_
              have HF := Lib.hid (Hfin.out _ kk5 c5)
              clear hHeld kk5 c5 k5 x0 x1 x2
              go_wp2
              go_roundw
              case rel => exact ⟨k + 1, true, none, by omega, rfl, by go_num, HF⟩
              case measure => simp [intOf]; omega
            · go_wp2_with (first | (go_at_call 15; go_loud (have m5 := Is_calls Hcs.out text; rw [(mark_of rest).1, (mark_of rest).2] at m5; refine m5.mono ?_; clear m5; rintro e w5 ⟨rfl, c5, k5⟩; have HF := Lib.hid (Hfin.out _ ((Keeps.refl (fun i => i = b) wr).trans k5) c5); clear c5 k5)))
              go_roundw
              case rel => exact ⟨k + 1, true, none, by omega, rfl, by go_num, HF⟩
              case measure => simp [intOf]; omega
          | some z =>
            have by4 : y.kind = 4 := hiff.1 rfl
            rw [by4] at y0
            have hz := hzs z rfl
            have He := End_calls (show CS wr b ib ⟨z :: Wd.item ⟨kind, text, n, line, col⟩ :: rest, 0, 0, 0⟩ from Hcs.out)
            rw [fin_stop hz] at He
            have HE := Lib.hid He
            clear hiff hzs by4 He hz
            rcases hok3 with rfl | rfl | rfl
            · go_wp2_with (first | (go_at_call 12; refine HE.out.mono ?_; rintro e w4 ⟨rfl, c4, k4⟩; have HC4 := Lib.hid c4; have HK4 := Lib.hid k4; have z0 := k4.cell' x0 Hgb.out; have y1 := k4.cell' x1 Hgb.out; have y2 := k4.cell' x2 Hgb.out; clear c4 k4))
              refine start_ (n := 9) (S := (fun w' => w'.cell? ⟨g, k * 5 + 1, none⟩ = some (.string text))) (ds := []) #[false, false, false, false, false, false, false, false, false] (by kernel_rfl) rfl rfl (by exact y1) (fun hHeld => ?_)
              refine pure_ (i := 0) (N := some 99) (v := ?_) (a' := ?_) #[true, false, false, false, false, false, false, false, false] rfl rfl (by kernel_rfl) (fun _ _ _ h => h) (Or.inl ⟨by rfl, ?_⟩) ?_ ?_
              rotate_left
              · intro w'
                go_simp
                with_reducible rfl
              rotate_left
              · simp only [Act.put, List.setIfInBounds_toArray, List.set_cons_zero, List.set_cons_succ]
                rfl
              refine pure_ (i := 2) (N := some 101) (v := ?_) (a' := ?_) #[true, false, true, false, false, false, false, false, false] rfl rfl (by kernel_rfl) (fun _ _ _ h => h) (Or.inl ⟨by rfl, ?_⟩) ?_ ?_
              rotate_left
              · intro w'
                go_simp
                with_reducible rfl
              rotate_left
              · simp only [Act.put, List.setIfInBounds_toArray, List.set_cons_zero, List.set_cons_succ]
                rfl
              refine pure_ (i := 3) (N := some 102) (v := ?_) (a' := ?_) #[true, false, true, true, false, false, false, false, false] rfl rfl (by kernel_rfl) (fun _ _ _ h => h) (Or.inl ⟨by rfl, ?_⟩) ?_ ?_
              rotate_left
              · intro w'
                go_simp
                with_reducible rfl
              rotate_left
              · simp only [Act.put, List.setIfInBounds_toArray, List.set_cons_zero, List.set_cons_succ]
                rfl
              refine pure_ (i := 4) (N := some 103) (v := ?_) (a' := ?_) #[true, false, true, true, true, false, false, false, false] rfl rfl (by kernel_rfl) (fun _ _ _ h => h) (Or.inl ⟨by rfl, ?_⟩) ?_ ?_
              rotate_left
              · intro w'
                go_simp
                with_reducible rfl
              rotate_left
              · simp only [Act.put, List.setIfInBounds_toArray, List.set_cons_zero, List.set_cons_succ]
                rfl
              refine pure_ (i := 5) (N := some 104) (v := ?_) (a' := ?_) #[true, false, true, true, true, true, false, false, false] rfl rfl (by kernel_rfl) (fun _ _ _ h => h) (Or.inl ⟨by rfl, ?_⟩) ?_ ?_
              rotate_left
              · intro w'
                go_simp
                with_reducible rfl
              rotate_left
              · simp only [Act.put, List.setIfInBounds_toArray, List.set_cons_zero, List.set_cons_succ]
                rfl
              refine take_ (i := 6) (N := some 105) (v := ?_) (a' := ?_) #[true, false, true, true, true, true, true, false, false] rfl rfl (by kernel_rfl) (fun _ _ _ h => h) (Or.inl ⟨by rfl, ?_⟩) hHeld ?_ ?_
              rotate_left
              · intro w' hSw
                have hs0 := hSw
                go_simp
                with_reducible rfl
              rotate_left
              · simp only [Act.put, List.setIfInBounds_toArray, List.set_cons_zero, List.set_cons_succ]
                rfl
              refine one_ (i := 1) (N := some 100) #[true, true, true, true, true, true, true, false, false] rfl rfl (by kernel_rfl) (by decide) (fun K hK => ?_)
              refine goes_ (f := 13) Tryd.func13 (by kernel_rfl) rfl #[.pointer (some ⟨b, 0, none⟩)] (by rfl) rfl rfl (by simp only [List.map_toArray, List.map_cons, List.map_nil]; rfl) ?_
              refine (name_calls (CS.drew' HC4.out)).mono ?_
              rw [name_of]
              rintro e w5 ⟨rfl, c5, k5⟩
              refine ⟨_, rfl, ?_⟩
              have kk5 := (Keeps.drew HK4.out).trans k5
              refine hK.out _ _ (k5.cell' (p := ⟨g, k * 5 + 1, none⟩) hHeld Hgb.out) (fun hHeld => ?_)
              clear hK K
              refine norm_ (a' := ?na5001) ?nb5001 ?nc5001
              case nb5001 =>
                simp only [Act.put, List.setIfInBounds_toArray, List.set_cons_zero, List.set_cons_succ]
                rfl
              refine pure_ (i := 7) (N := some 106) (v := ?_) (a' := ?_) #[true, true, true, true, true, true, true, true, false] rfl rfl (by kernel_rfl) (fun _ _ _ h => h) (Or.inl ⟨by rfl, ?_⟩) ?_ ?_
              rotate_left
              · intro w'
                go_simp
                with_reducible rfl
              rotate_left
              · simp only [Act.put, List.setIfInBounds_toArray, List.set_cons_zero, List.set_cons_succ]
                rfl
              refine pure_ (i := 8) (N := some 13) (v := ?_) (a' := ?_) #[true, true, true, true, true, true, true, true, true] rfl rfl (by kernel_rfl) (fun _ _ _ h => h) (Or.inl ⟨by rfl, ?_⟩) ?_ ?_
              rotate_left
              · intro w'
                go_simp
                with_reducible rfl
              rotate_left
              · simp only [Act.put, List.setIfInBounds_toArray, List.set_cons_zero, List.set_cons_succ]
                rfl
              refine done_ (by kernel_rfl) ?_
              have HF := Lib.hid (Hfin.out _ kk5 c5)
              clear hHeld kk5 c5 k5 x0 x1 x2 y1 y2
              have be := eqb_self text
              go_wp2
              go_roundw
              case rel => exact ⟨k + 1, true, none, by omega, rfl, by go_num, HF⟩
              case measure => simp [intOf]; omega
            · have hn0 := Lib.hid (Hnum.out rfl)
              go_wp2_with (first | (go_at_call 12; refine HE.out.mono ?_; rintro e w4 ⟨rfl, c4, k4⟩; have HC4 := Lib.hid c4; have HK4 := Lib.hid k4; have z0 := k4.cell' x0 Hgb.out; have y1 := k4.cell' x1 Hgb.out; have y2 := k4.cell' x2 Hgb.out; clear c4 k4))
              refine start_ (n := 9) (S := (fun w' => w'.cell? ⟨g, k * 5 + 2, none⟩ = some (.int .i64 n))) (ds := []) #[false, false, false, false, false, false, false, false, false] (by kernel_rfl) rfl rfl (by exact y2) (fun hHeld => ?_)
              refine pure_ (i := 0) (N := some 109) (v := ?_) (a' := ?_) #[true, false, false, false, false, false, false, false, false] rfl rfl (by kernel_rfl) (fun _ _ _ h => h) (Or.inl ⟨by rfl, ?_⟩) ?_ ?_
              rotate_left
              · intro w'
                go_simp
                with_reducible rfl
              rotate_left
              · simp only [Act.put, List.setIfInBounds_toArray, List.set_cons_zero, List.set_cons_succ]
                rfl
              refine pure_ (i := 2) (N := some 111) (v := ?_) (a' := ?_) #[true, false, true, false, false, false, false, false, false] rfl rfl (by kernel_rfl) (fun _ _ _ h => h) (Or.inl ⟨by rfl, ?_⟩) ?_ ?_
              rotate_left
              · intro w'
                go_simp
                with_reducible rfl
              rotate_left
              · simp only [Act.put, List.setIfInBounds_toArray, List.set_cons_zero, List.set_cons_succ]
                rfl
              refine pure_ (i := 3) (N := some 112) (v := ?_) (a' := ?_) #[true, false, true, true, false, false, false, false, false] rfl rfl (by kernel_rfl) (fun _ _ _ h => h) (Or.inl ⟨by rfl, ?_⟩) ?_ ?_
              rotate_left
              · intro w'
                go_simp
                with_reducible rfl
              rotate_left
              · simp only [Act.put, List.setIfInBounds_toArray, List.set_cons_zero, List.set_cons_succ]
                rfl
              refine pure_ (i := 4) (N := some 113) (v := ?_) (a' := ?_) #[true, false, true, true, true, false, false, false, false] rfl rfl (by kernel_rfl) (fun _ _ _ h => h) (Or.inl ⟨by rfl, ?_⟩) ?_ ?_
              rotate_left
              · intro w'
                go_simp
                with_reducible rfl
              rotate_left
              · simp only [Act.put, List.setIfInBounds_toArray, List.set_cons_zero, List.set_cons_succ]
                rfl
              refine pure_ (i := 5) (N := some 114) (v := ?_) (a' := ?_) #[true, false, true, true, true, true, false, false, false] rfl rfl (by kernel_rfl) (fun _ _ _ h => h) (Or.inl ⟨by rfl, ?_⟩) ?_ ?_
              rotate_left
              · intro w'
                go_simp
                with_reducible rfl
              rotate_left
              · simp only [Act.put, List.setIfInBounds_toArray, List.set_cons_zero, List.set_cons_succ]
                rfl
              refine take_ (i := 6) (N := some 115) (v := ?_) (a' := ?_) #[true, false, true, true, true, true, true, false, false] rfl rfl (by kernel_rfl) (fun _ _ _ h => h) (Or.inl ⟨by rfl, ?_⟩) hHeld ?_ ?_
              rotate_left
              · intro w' hSw
                have hs0 := hSw
                go_simp
                with_reducible rfl
              rotate_left
              · simp only [Act.put, List.setIfInBounds_toArray, List.set_cons_zero, List.set_cons_succ]
                rfl
              refine one_ (i := 1) (N := some 110) #[true, true, true, true, true, true, true, false, false] rfl rfl (by kernel_rfl) (by decide) (fun K hK => ?_)
              refine goes_ (f := 14) Tryd.func14 (by kernel_rfl) rfl #[.pointer (some ⟨b, 0, none⟩), .int .i64 (-1099511627776), .int .i64 1099511627776] (by rfl) rfl rfl (by simp only [List.map_toArray, List.map_cons, List.map_nil]; rfl) ?_
              refine (num_calls (CS.drew' HC4.out) (-1099511627776) 1099511627776).mono ?_
              rw [num_of rest hn0.out]
              rintro e w5 ⟨rfl, c5, k5⟩
              refine ⟨_, rfl, ?_⟩
              have kk5 := (Keeps.drew HK4.out).trans k5
              refine hK.out _ _ (k5.cell' (p := ⟨g, k * 5 + 2, none⟩) hHeld Hgb.out) (fun hHeld => ?_)
              clear hK K
              refine norm_ (a' := ?na6001) ?nb6001 ?nc6001
              case nb6001 =>
                simp only [Act.put, List.setIfInBounds_toArray, List.set_cons_zero, List.set_cons_succ]
                rfl
              refine pure_ (i := 7) (N := some 116) (v := ?_) (a' := ?_) #[true, true, true, true, true, true, true, true, false] rfl rfl (by kernel_rfl) (fun _ _ _ h => h) (Or.inl ⟨by rfl, ?_⟩) ?_ ?_
              rotate_left
              · intro w'
                go_simp
                with_reducible rfl
              rotate_left
              · simp only [Act.put, List.setIfInBounds_toArray, List.set_cons_zero, List.set_cons_succ]
                rfl
              refine pure_ (i := 8) (N := some 13) (v := ?_) (a' := ?_) #[true, true, true, true, true, true, true, true, true] rfl rfl (by kernel_rfl) (fun _ _ _ h => h) (Or.inl ⟨by rfl, ?_⟩) ?_ ?_
              rotate_left
              · intro w'
                go_simp
                with_reducible rfl
              rotate_left
              · simp only [Act.put, List.setIfInBounds_toArray, List.set_cons_zero, List.set_cons_succ]
                rfl
              refine done_ (by kernel_rfl) ?_
              have HF := Lib.hid (Hfin.out _ kk5 c5)
              clear hHeld kk5 c5 k5 x0 x1 x2 y1 y2
              go_wp2
              go_roundw
              case rel => exact ⟨k + 1, true, none, by omega, rfl, by go_num, HF⟩
              case measure => simp [intOf]; omega
            · go_wp2_with (first | (go_at_call 12; refine HE.out.mono ?_; rintro e w4 ⟨rfl, c4, k4⟩; have HC4 := Lib.hid c4; have HK4 := Lib.hid k4; have z0 := k4.cell' x0 Hgb.out; have y1 := k4.cell' x1 Hgb.out; have y2 := k4.cell' x2 Hgb.out; clear c4 k4) | (go_at_call 15; go_loud (have m5 := Is_calls HC4.out text; rw [(mark_of rest).1, (mark_of rest).2] at m5; refine m5.mono ?_; clear m5; rintro e w5 ⟨rfl, c5, k5⟩; have HF := Lib.hid (Hfin.out _ (HK4.out.trans k5) c5); clear c5 k5)))
              go_roundw
              case rel => exact ⟨k + 1, true, none, by omega, rfl, by go_num, HF⟩
              case measure => simp [intOf]; omega
    · have hkl : k = l.length := by omega
      subst hkl
      have hcs := HA.out.cs
      rw [List.drop_length] at hcs
      have hcs' : CS wr b ib ⟨[], 0, 0, 0⟩ := by
        cases o <;> cases p <;> exact hcs
      have He := Lib.hid (Err_calls hcs')
      have Hk := Lib.hid HA.out.keep
      have Hc := Lib.hid hcs'
      clear hcs hcs' HA
      go_wp2_with (first | (go_at_call 10; refine He.out.mono ?_; rintro e w4 ⟨rfl, k4⟩; have Hm := Lib.hid (more_calls (Hc.out.keep0 k4)); have K4 := Lib.hid (Hk.out.trans k4); clear k4) | (go_at_call 11; refine Hm.out.mono ?_; rintro e w5 ⟨rfl, rfl⟩))
      go_ret
      exact ⟨rfl, K4.out⟩

theorem LineAll_calls (s : ByteArray) (w : World) (hG : Glob w) (h8 : 4 ≤ w.heap.size) : Calls Tryd.prog 3 #[.string s] w (LineAllPost w) := by
  by_cases hs : s.size ≤ 3000
  · by_cases hw : (wordRead s).2.2.2 = 0
    · exact all_ok s w hG h8 hs hw
    · exact all_bad s w hG h8 hs hw
  · exact all_long s w hG h8 (by omega)

end
end Go.Proofs.YtoibcaoaljglbaaDoor
