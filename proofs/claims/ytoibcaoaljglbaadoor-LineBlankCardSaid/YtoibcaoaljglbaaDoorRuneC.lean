/-
  The reader over runesU; two readers that stand alike: more empty lines, spaces, remarks change nothing but places.
-/
import Derived.Test.YtoibcaoaljglbaaDoorRuneB
import Derived.Test.YtoibcaoaljglbaaDoorLawB
namespace Go.Proofs.YtoibcaoaljglbaaDoor
open Go Go.Lib Go.RowKit

def rdR : List (Option Int) → Rd → Rd
  | [], st => st
  | x :: t, st => if (st.look x.isNone).wrong = 0 then rdR t ((st.look x.isNone).go (x.getD 0)) else st.look x.isNone

theorem len_bytes (s : ByteArray) : s.data.toList.length = s.size := Array.length_toList

theorem bytes_extract (s : ByteArray) (k : Nat) : (s.extract k s.size).data.toList = s.data.toList.drop k := by
  rw [ByteArray.data_extract]
  simp only [Array.toList_extract, List.extract_eq_take_drop]
  rw [List.take_of_length_le]
  rw [List.length_drop, len_bytes]
  exact Nat.le_refl _

theorem badRune_badL (s : ByteArray) (k : Nat) : badRune s k ((Utf8.decode s k).1 : Int) = badL (s.data.toList.drop k) := by
  unfold badRune badL
  rw [bytes_extract, decodeL_drop]
  congr 1
  cases h : ((Utf8.decode s k).1 == 65533) with
  | true =>
    have : (Utf8.decode s k).1 = 65533 := by simpa using h
    rw [this]
    rfl
  | false =>
    have : ¬ (Utf8.decode s k).1 = 65533 := by simpa using h
    simp
    omega

theorem drop_cons_of_lt {s : ByteArray} {k : Nat} (h : k < s.size) : ∃ b r, s.data.toList.drop k = b :: r := by
  have : k < s.data.toList.length := by rw [len_bytes]; exact h
  exact ⟨_, _, List.drop_eq_getElem_cons this⟩

theorem rdLoop_runes (s : ByteArray) : ∀ (f k : Nat) (st : Rd), s.size < k + f → rdLoop s f k st = rdR (runesU (s.data.toList.drop k)) st
  | 0, k, st, h => by
    rw [List.drop_of_length_le (by have := len_bytes s; omega)]
    rfl
  | f + 1, k, st, h => by
    by_cases hk : k < s.size
    · obtain ⟨b, r, e⟩ := drop_cons_of_lt hk
      have hb := badRune_badL s k
      rw [rdLoop, if_pos hk, hb]
      have hd := decodeL_drop s k
      rw [e] at hb ⊢
      rw [e] at hd
      cases hbad : badL (b :: r) with
      | true =>
        rw [runesU_bad hbad]
        have hl := look_bad st
        simp only [rdR, Option.isNone_none, if_neg hl]
      | false =>
        rw [runesU_good hbad]
        have e2 : (b :: r).drop (decodeL (b :: r)).2 = s.data.toList.drop (k + (Utf8.decode s k).2) := by
          rw [← e, List.drop_drop, decodeL_drop]
        rw [e2, hd]
        simp only [rdR, Option.isNone_some, Option.getD_some]
        split
        · exact rdLoop_runes s f _ _ (by have := decode_pos s k; omega)
        · rfl
    · rw [rdLoop, if_neg hk, List.drop_of_length_le (by have := len_bytes s; omega)]
      rfl

theorem rdAll_runes (s : ByteArray) : rdAll s = (rdR (runesU s.data.toList) Rd.init).close := by
  unfold rdAll
  rw [rdLoop_runes s _ _ _ (by omega), List.drop_zero]

/-- what a row of words says, ends ahead, behind and twice left out -/
def goH : Bool → Bool → List Has → List Has
  | _, _, [] => []
  | o, p, h :: r => if h.isStop = true then goH o o r else (if p = true then [Has.stop] else []) ++ h :: goH true false r

def stH : Bool → Bool → List Has → Bool × Bool
  | o, p, [] => (o, p)
  | o, _, h :: r => if h.isStop = true then stH o o r else stH true false r

theorem goH_append (L M : List Has) : ∀ o p, goH o p (L ++ M) = goH o p L ++ goH (stH o p L).1 (stH o p L).2 M := by
  induction L with
  | nil => intro o p; rfl
  | cons h r ih =>
    intro o p
    simp only [List.cons_append, goH, stH]
    split
    · exact ih o o
    · rw [ih true false]
      simp [List.append_assoc]

theorem stH_append (L M : List Has) : ∀ o p, stH o p (L ++ M) = stH (stH o p L).1 (stH o p L).2 M := by
  induction L with
  | nil => intro o p; rfl
  | cons h r ih =>
    intro o p
    simp only [List.cons_append, stH]
    split
    · exact ih o o
    · exact ih true false

theorem isStop_eq {h : Has} (hs : h.isStop = true) : h = .stop := by cases h <;> first | rfl | cases hs

theorem goIt_goH (l : List Item) : ∀ (o : Bool) (p : Option Item), (∀ z, p = some z → z.has.isStop = true) → (o = false → p = none) → (goIt o p l).map (·.has) = goH o p.isSome (l.map (·.has)) := by
  induction l with
  | nil => intro o p _ _; rfl
  | cons x r ih =>
    intro o p hp ho
    simp only [goIt, goH, List.map_cons]
    by_cases hx : x.has.isStop = true
    · rw [if_pos hx, if_pos hx]
      cases o with
      | true =>
        rw [if_pos rfl, ih true _ (by
          intro z hz
          cases p with
          | none => simp at hz; subst hz; exact hx
          | some q => simp at hz; subst hz; exact hp _ rfl) (by simp)]
        cases p <;> rfl
      | false =>
        obtain rfl := ho rfl
        rw [if_neg (by simp), ih false none (by simp) (by simp)]
        rfl
    · rw [if_neg hx, if_neg hx]
      rw [List.map_append, List.map_cons, ih true none (by simp) (by simp)]
      cases p with
      | none => rfl
      | some z =>
        have := isStop_eq (hp z rfl)
        simp [this]

/-- what words say -/
def hasOf (ws : List Wd) : List Has := ws.map Wd.has

def sayW (ws : List Wd) : List Has × Bool × Bool := (goH false false (hasOf ws), stH false false (hasOf ws))

theorem sayW_append {ws ws' : List Wd} (h : sayW ws = sayW ws') (xs ys : List Wd) (hx : hasOf xs = hasOf ys) : sayW (ws ++ xs) = sayW (ws' ++ ys) := by
  unfold sayW at *
  have h1 := congrArg Prod.fst h
  have h2 := congrArg Prod.snd h
  simp only at h1 h2
  have e1 : hasOf (ws ++ xs) = hasOf ws ++ hasOf xs := by simp [hasOf]
  have e2 : hasOf (ws' ++ ys) = hasOf ws' ++ hasOf ys := by simp [hasOf]
  rw [e1, e2, hx, goH_append, goH_append, stH_append, stH_append, h1, h2]

/-- two readers that stand alike -/
structure Alike (st st' : Rd) : Prop where
  wrong : st.wrong = st'.wrong
  state : st.wrong = 0 → st.state = st'.state
  text : st.wrong = 0 → st.state = 0 ∨ st.state = 1 ∨ st.text = st'.text
  say : st.wrong = 0 → sayW st.words = sayW st'.words

theorem Alike.refl (st : Rd) : Alike st st := ⟨rfl, fun _ => rfl, fun _ => Or.inr (Or.inr rfl), fun _ => rfl⟩

theorem Alike.bad {st st' : Rd} (h : st.wrong ≠ 0) (h' : st.wrong = st'.wrong) : Alike st st' := ⟨h', fun e => absurd e h, fun e => absurd e h, fun e => absurd e h⟩

theorem fail_wrong (st : Rd) (e l c : Int) : (st.fail e l c).wrong = if st.wrong = 0 then e else st.wrong := by
  unfold Rd.fail
  split <;> rfl

theorem fail_stuck {st : Rd} (h : st.wrong ≠ 0) (e l c : Int) : st.fail e l c = st := by
  unfold Rd.fail
  rw [if_neg h]

theorem Alike.fail {st st' : Rd} (h : Alike st st') (e l c l' c' : Int) (he : e ≠ 0) : Alike (st.fail e l c) (st'.fail e l' c') := by
  refine Alike.bad ?_ ?_
  · rw [fail_wrong]
    split
    · exact he
    · assumption
  · rw [fail_wrong, fail_wrong, h.wrong]

theorem Alike.put {st st' : Rd} (h : Alike st st') (k : Int) (s : ByteArray) (n : Int) : Alike (st.put k s n) (st'.put k s n) :=
  ⟨h.wrong, h.state, h.text, fun e => sayW_append (h.say e) _ _ rfl⟩

theorem close1_stuck {st : Rd} (h : st.wrong ≠ 0) : st.close1.wrong = st.wrong := by
  unfold Rd.close1
  rw [fail_stuck h, fail_stuck h]
  repeat' split
  all_goals rfl

theorem close_stuck {st : Rd} (h : st.wrong ≠ 0) : st.close.wrong = st.wrong := close1_stuck h

theorem Alike.close1 {st st' : Rd} (h : Alike st st') : Alike st.close1 st'.close1 := by
  by_cases hw : st.wrong = 0
  · have hs := h.state hw
    unfold Rd.close1
    rw [← hs]
    by_cases h2 : st.state = 2
    · have ht : st.text = st'.text := by
        rcases h.text hw with q | q | q
        · omega
        · omega
        · exact q
      rw [if_pos h2, if_pos h2, ← ht]
      split
      · exact (h.fail _ _ _ _ _ (by decide)).put _ _ _
      · exact h.put _ _ _
    · rw [if_neg h2, if_neg h2]
      by_cases h4 : st.state = 4
      · have ht : st.text = st'.text := by
          rcases h.text hw with q | q | q
          · omega
          · omega
          · exact q
        rw [if_pos h4, if_pos h4, ← ht]
        split
        · exact (h.fail _ _ _ _ _ (by decide)).put _ _ _
        · exact h.put _ _ _
      · rw [if_neg h4, if_neg h4]
        split
        · exact h.fail _ _ _ _ _ (by decide)
        · exact h
  · exact Alike.bad (by rw [close1_stuck hw]; exact hw) (by rw [close1_stuck hw, close1_stuck (by rw [← h.wrong]; exact hw)]; exact h.wrong)

theorem Alike.close {st st' : Rd} (h : Alike st st') : Alike st.close st'.close :=
  ⟨h.close1.wrong, fun _ => rfl, fun _ => Or.inl rfl, h.close1.say⟩

theorem Alike.with {st st' : Rd} (h : Alike st st') {t t' : Rd} (hw : t.wrong = st.wrong) (hw' : t'.wrong = st'.wrong) (hs : t.state = t'.state) (ht : t.text = t'.text) (hws : t.words = st.words) (hws' : t'.words = st'.words) : Alike t t' :=
  ⟨by rw [hw, hw', h.wrong], fun _ => hs, fun _ => Or.inr (Or.inr ht), fun e => by rw [hws, hws']; exact h.say (by rw [← hw]; exact e)⟩

theorem Alike.begin {st st' : Rd} (h : Alike st st') (hs : st.wrong = 0 → st.state = st'.state) (c : Int) : Alike (st.begin c) (st'.begin c) := by
  have hf : Alike (st.fresh c) (st'.fresh c) := ⟨h.wrong, hs, fun _ => Or.inr (Or.inr rfl), h.say⟩
  unfold Rd.begin
  repeat' split
  all_goals first
    | exact hf.with rfl rfl rfl rfl rfl rfl
    | exact hf.put _ _ _
    | exact hf.fail _ _ _ _ _ (by decide)
    | exact hf

theorem begin_stuck {st : Rd} (h : st.wrong ≠ 0) (c : Int) : (st.begin c).wrong = st.wrong := by
  unfold Rd.begin
  repeat' split
  all_goals first
    | rfl
    | exact (congrArg Rd.wrong (fail_stuck (st := st.fresh c) h 6 st.line st.col)).trans rfl

theorem take_stuck {st : Rd} (h : st.wrong ≠ 0) (c : Int) : (st.take c).wrong = st.wrong := by
  unfold Rd.take
  have h1 := close_stuck h
  have h2 : st.close.wrong ≠ 0 := by rw [h1]; exact h
  rw [fail_stuck h2]
  repeat' split
  all_goals first
    | rfl
    | exact begin_stuck (st := { st with state := 0 }) h _
    | (rw [begin_stuck (by rw [close_stuck h2]; exact h2), close_stuck h2]; exact h1)
    | (rw [begin_stuck h2]; exact h1)

theorem over_wrong (st : Rd) (r : Int) : (st.over r).wrong = st.wrong := by
  unfold Rd.over
  split <;> rfl

theorem Alike.over {st st' : Rd} (h : Alike st st') (r : Int) : Alike (st.over r) (st'.over r) := by
  unfold Rd.over
  split
  · exact ⟨h.wrong, h.state, h.text, h.say⟩
  · exact ⟨h.wrong, h.state, h.text, h.say⟩

theorem Alike.take {st st' : Rd} (h : Alike st st') (c : Int) : Alike (st.take c) (st'.take c) := by
  by_cases hw : st.wrong = 0
  · have hs := h.state hw
    unfold Rd.take
    rw [← hs]
    by_cases h1 : st.state = 1
    · rw [if_pos h1, if_pos h1]
      split
      · exact Alike.begin (st := { st with state := 0 }) (st' := { st' with state := 0 }) ⟨h.wrong, fun _ => rfl, fun _ => Or.inl rfl, h.say⟩ (fun _ => rfl) _
      · exact h
    · rw [if_neg h1, if_neg h1]
      have ht : st.state = 0 ∨ st.text = st'.text := by
        rcases h.text hw with q | q | q
        · exact Or.inl q
        · exact absurd q h1
        · exact Or.inr q
      by_cases h2 : st.state = 2 ∧ (letterB c = true ∨ digitB c = true)
      · rw [if_pos h2, if_pos h2]
        have ht2 : st.text = st'.text := by rcases ht with q | q; omega; exact q
        exact h.with rfl rfl hs (by simp [Rd.more, ht2]) rfl rfl
      · rw [if_neg h2, if_neg h2]
        by_cases h3 : (st.state = 3 ∨ st.state = 4) ∧ digitB c = true
        · rw [if_pos h3, if_pos h3]
          have ht2 : st.text = st'.text := by rcases ht with q | q; omega; exact q
          exact h.with rfl rfl rfl (by simp [Rd.more, ht2]) rfl rfl
        · rw [if_neg h3, if_neg h3]
          split
          · exact Alike.begin (Alike.close (h.close.fail _ _ _ _ _ (by decide))) (fun _ => rfl) _
          · exact Alike.begin h.close (fun _ => rfl) _
  · exact Alike.bad (by rw [take_stuck hw]; exact hw) (by rw [take_stuck hw, take_stuck (by rw [← h.wrong]; exact hw)]; exact h.wrong)

theorem Alike.go {st st' : Rd} (h : Alike st st') (c : Int) : Alike (st.go c) (st'.go c) := (h.take c).over c

theorem go_stuck {st : Rd} (h : st.wrong ≠ 0) (c : Int) : (st.go c).wrong = st.wrong := by
  unfold Rd.go
  rw [over_wrong, take_stuck h]

theorem Alike.look {st st' : Rd} (h : Alike st st') (b : Bool) : Alike (st.look b) (st'.look b) := by
  unfold Rd.look
  split
  · exact h.close.fail _ _ _ _ _ (by decide)
  · exact h

theorem look_stuck {st : Rd} (h : st.wrong ≠ 0) (b : Bool) : (st.look b).wrong = st.wrong := by
  unfold Rd.look
  split
  · rw [fail_stuck (by rw [close_stuck h]; exact h), close_stuck h]
  · rfl

theorem rdR_stuck {st : Rd} (h : st.wrong ≠ 0) (l : List (Option Int)) : (rdR l st).wrong = st.wrong := by
  cases l with
  | nil => rfl
  | cons x t =>
    rw [rdR, if_neg (by rw [look_stuck h]; exact h), look_stuck h]

/-! The reader at rest: a space, a remark, an empty line. -/

theorem close_rest {st : Rd} (h : st.state = 0) : st.close = { st with text := [], state := 0 } := by
  unfold Rd.close Rd.close1
  rw [h]
  rfl

theorem take_rest {st : Rd} (h : st.state = 0) (c : Int) : st.take c = ({ st with text := [], state := 0 } : Rd).begin c := by
  unfold Rd.take
  rw [h, if_neg (by decide), if_neg (by simp), if_neg (by simp), if_neg (by simp), close_rest h]

/-- a step that changes nothing but places -/
def Quiet (st st' : Rd) : Prop := st'.wrong = st.wrong ∧ st'.state = 0 ∧ st'.words = st.words

theorem Quiet.over {st st' : Rd} (h : Quiet st st') (c : Int) : Quiet st (st'.over c) := by
  unfold Rd.over
  split <;> exact h

theorem go_blank {st : Rd} (h : st.state = 0) (c : Int) (hc : c = 32 ∨ c = 9) : Quiet st (st.go c) := by
  refine Quiet.over ?_ c
  rw [take_rest h]
  rcases hc with rfl | rfl <;> exact ⟨rfl, rfl, rfl⟩

theorem go_semi {st : Rd} (h : st.state = 0) : (st.go 59).wrong = st.wrong ∧ (st.go 59).state = 1 ∧ (st.go 59).words = st.words := by
  unfold Rd.go
  rw [take_rest h]
  exact ⟨rfl, rfl, rfl⟩

theorem go_remark {st : Rd} (h : st.state = 1) (c : Int) (hc : c ≠ 10) : (st.go c).wrong = st.wrong ∧ (st.go c).state = 1 ∧ (st.go c).words = st.words := by
  unfold Rd.go Rd.take Rd.over
  rw [if_pos h, if_neg hc, if_neg hc]
  exact ⟨rfl, h, rfl⟩

/-- behind a line's end the reader is at rest, and the last word is an end -/
theorem go_end (st : Rd) : (st.go 10).state = 0 ∧ ∃ X x, (st.go 10).words = X ++ [x] ∧ x.has = .stop := by
  have hb : ∀ s : Rd, s.state = 0 → (s.begin 10).state = 0 ∧ ∃ X x, (s.begin 10).words = X ++ [x] ∧ x.has = .stop := fun s hs => ⟨hs, s.words, _, rfl, rfl⟩
  have ht : (st.take 10).state = 0 ∧ ∃ X x, (st.take 10).words = X ++ [x] ∧ x.has = .stop := by
    unfold Rd.take
    split
    · exact hb { st with state := 0 } rfl
    · rw [if_neg (by rintro ⟨_, h⟩; revert h; decide), if_neg (by rintro ⟨_, h⟩; revert h; decide), if_neg (by rintro ⟨_, h⟩; revert h; decide)]
      exact hb _ rfl
  exact ht

theorem go_end_rest {st : Rd} (h : st.state = 0 ∨ st.state = 1) : (st.go 10).wrong = st.wrong ∧ (st.go 10).state = 0 ∧ ∃ x : Wd, (st.go 10).words = st.words ++ [x] ∧ x.has = .stop := by
  rcases h with h | h
  · unfold Rd.go
    rw [take_rest h]
    exact ⟨rfl, rfl, _, rfl, rfl⟩
  · unfold Rd.go Rd.take
    rw [if_pos h, if_pos rfl]
    exact ⟨rfl, rfl, _, rfl, rfl⟩

theorem sayW_ends (ws : List Wd) (h : (sayW ws).2.2 = (sayW ws).2.1) (x : Wd) (hx : x.has = .stop) : sayW (ws ++ [x]) = sayW ws := by
  unfold sayW at *
  have e1 : hasOf (ws ++ [x]) = hasOf ws ++ [Has.stop] := by simp [hasOf, hx]
  rw [e1, goH_append, stH_append]
  simp only at h
  refine Prod.ext ?_ ?_
  · show goH false false (hasOf ws) ++ goH (stH false false (hasOf ws)).1 (stH false false (hasOf ws)).2 [Has.stop] = goH false false (hasOf ws)
    simp [goH, Has.isStop]
  · show stH (stH false false (hasOf ws)).1 (stH false false (hasOf ws)).2 [Has.stop] = stH false false (hasOf ws)
    simp only [stH, Has.isStop, if_true]
    exact Prod.ext rfl h.symm

theorem sayW_behind (X : List Wd) (x : Wd) (hx : x.has = .stop) : (sayW (X ++ [x])).2.2 = (sayW (X ++ [x])).2.1 := by
  unfold sayW
  have e1 : hasOf (X ++ [x]) = hasOf X ++ [Has.stop] := by simp [hasOf, hx]
  rw [e1, stH_append]
  rfl

theorem rdR_some {st : Rd} (h : st.wrong = 0) (c : Int) (t : List (Option Int)) : rdR (some c :: t) st = rdR t (st.go c) := by
  have e : st.look (some c).isNone = st := rfl
  rw [rdR, e, if_pos h]
  rfl

/-- the tail that is laid behind a line's end changes nothing but places -/
theorem rdR_wideTail {st : Rd} (h0 : st.state = 0) (hw : st.wrong = 0) (hp : (sayW st.words).2.2 = (sayW st.words).2.1) (M : List (Option Int)) :
    ∃ st', rdR (wideTailR ++ M) st = rdR M st' ∧ Alike st st' := by
  show ∃ st', rdR (some 9 :: some 59 :: some 32 :: some 8594 :: some 10 :: some 10 :: some 32 :: M) st = rdR M st' ∧ Alike st st'
  obtain ⟨a1, a2, a3⟩ := go_blank h0 9 (Or.inr rfl)
  obtain ⟨b1, b2, b3⟩ := go_semi a2
  obtain ⟨c1, c2, c3⟩ := go_remark b2 32 (by decide)
  obtain ⟨d1, d2, d3⟩ := go_remark c2 8594 (by decide)
  obtain ⟨e1, e2, x, e3, e4⟩ := go_end_rest (Or.inr d2)
  obtain ⟨f1, f2, y, f3, f4⟩ := go_end_rest (Or.inl e2)
  obtain ⟨g1, g2, g3⟩ := go_blank f2 32 (Or.inl rfl)
  rw [rdR_some hw, rdR_some (a1.trans hw), rdR_some (b1.trans (a1.trans hw)), rdR_some (c1.trans (b1.trans (a1.trans hw))), rdR_some (d1.trans (c1.trans (b1.trans (a1.trans hw)))),
    rdR_some (e1.trans (d1.trans (c1.trans (b1.trans (a1.trans hw))))), rdR_some (f1.trans (e1.trans (d1.trans (c1.trans (b1.trans (a1.trans hw))))))]
  refine ⟨_, rfl, ?_, fun _ => by rw [h0, g2], fun _ => Or.inl h0, fun _ => ?_⟩
  · exact (g1.trans (f1.trans (e1.trans (d1.trans (c1.trans (b1.trans a1)))))).symm
  · rw [g3, f3, e3, d3, c3, b3, a3]
    rw [sayW_ends (st.words ++ [x]) (by rw [sayW_ends _ hp x e4]; exact hp) y f4, sayW_ends _ hp x e4]

/-- the lines that are laid ahead change nothing but places -/
theorem rdR_wideHead (M : List (Option Int)) : ∃ st', rdR (some 10 :: some 32 :: some 59 :: some 10 :: M) Rd.init = rdR M st' ∧ Alike Rd.init st' := by
  obtain ⟨e1, e2, x, e3, e4⟩ := go_end_rest (st := Rd.init) (Or.inl rfl)
  obtain ⟨a1, a2, a3⟩ := go_blank e2 32 (Or.inl rfl)
  obtain ⟨b1, b2, b3⟩ := go_semi a2
  obtain ⟨f1, f2, y, f3, f4⟩ := go_end_rest (Or.inr b2)
  have hw : Rd.init.wrong = 0 := rfl
  rw [rdR_some hw, rdR_some (e1.trans hw), rdR_some (a1.trans (e1.trans hw)), rdR_some (b1.trans (a1.trans (e1.trans hw)))]
  refine ⟨_, rfl, (f1.trans (b1.trans (a1.trans e1))).symm, fun _ => by rw [f2]; rfl, fun _ => Or.inl rfl, fun _ => ?_⟩
  have hp : (sayW Rd.init.words).2.2 = (sayW Rd.init.words).2.1 := rfl
  rw [f3, b3, a3, e3]
  rw [sayW_ends (Rd.init.words ++ [x]) (by rw [sayW_ends _ hp x e4]; exact hp) y f4, sayW_ends _ hp x e4]

theorem Alike.trans {a b c : Rd} (h : Alike a b) (k : Alike b c) : Alike a c := by
  refine ⟨h.wrong.trans k.wrong, fun e => (h.state e).trans (k.state (by rw [← h.wrong]; exact e)), fun e => ?_, fun e => (h.say e).trans (k.say (by rw [← h.wrong]; exact e))⟩
  have e' : b.wrong = 0 := by rw [← h.wrong]; exact e
  have hs := h.state e
  rcases h.text e with q | q | q
  · exact Or.inl q
  · exact Or.inr (Or.inl q)
  · rcases k.text e' with r | r | r
    · exact Or.inl (by rw [hs]; exact r)
    · exact Or.inr (Or.inl (by rw [hs]; exact r))
    · exact Or.inr (Or.inr (q.trans r))

theorem rdR_widen (L : List (Option Int)) : ∀ st st', Alike st st' → Alike (rdR L st) (rdR (widenR L) st') := by
  induction L with
  | nil => intro st st' h; exact h
  | cons x t ih =>
    intro st st' h
    have hl := h.look x.isNone
    rw [rdR, widenR, rdR]
    by_cases hw : (st.look x.isNone).wrong = 0
    · rw [if_pos hw, if_pos (by rw [← hl.wrong]; exact hw)]
      have hg := hl.go (x.getD 0)
      by_cases h10 : x = some 10
      · subst h10
        rw [if_pos rfl]
        obtain ⟨s0, X, y, hX, hy⟩ := go_end (st'.look false)
        by_cases hw2 : ((st'.look false).go 10).wrong = 0
        · obtain ⟨s2, e2, k2⟩ := rdR_wideTail s0 hw2 (by rw [hX]; exact sayW_behind X y hy) (widenR t)
          show Alike (rdR t ((st.look false).go 10)) (rdR (wideTailR ++ widenR t) ((st'.look false).go 10))
          rw [e2]
          exact ih _ _ (Alike.trans hg k2)
        · have hw3 : ((st.look false).go 10).wrong ≠ 0 := by rw [show ((st.look false).go 10).wrong = _ from hg.wrong]; exact hw2
          show Alike (rdR t ((st.look false).go 10)) (rdR (wideTailR ++ widenR t) ((st'.look false).go 10))
          exact Alike.bad (by rw [rdR_stuck hw3]; exact hw3) (by rw [rdR_stuck hw3, rdR_stuck hw2]; exact hg.wrong)
      · rw [if_neg h10]
        exact ih _ _ hg
    · rw [if_neg hw, if_neg (by rw [← hl.wrong]; exact hw)]
      exact hl

/-- a text, and the same with more empty lines, spaces, remarks -/
theorem rdAll_widen (s t : ByteArray) (ht : t.data.toList = wideHead ++ widen s.data.toList) : Alike (rdAll s) (rdAll t) := by
  rw [rdAll_runes, rdAll_runes, ht, runesU_wideHead, runesU_widen _ _ (Nat.le_refl _)]
  obtain ⟨st', e, h⟩ := rdR_wideHead (widenR (runesU s.data.toList))
  rw [e]
  exact (rdR_widen _ _ _ h).close

end Go.Proofs.YtoibcaoaljglbaaDoor
