/-
  The walk of Over.
-/
import Derived.Test.YtoibcaoaljglbaaDoorOverE
import Derived.Test.YtoibcaoaljglbaaDoorWLast
import Derived.IntWalk
namespace Go.Proofs.YtoibcaoaljglbaaDoor
open Go Go.RowKit Go.Proofs.YtoibcaoaljglbaaDoorW.PrintLast
set_option linter.unusedSimpArgs false

def firstStop (l : List Item) : Bool := match l with
  | [] => false
  | x :: _ => x.has.isStop

def overTail (a : List Item) : List Item :=
  if lastStop false (if firstStop a = true then a.tail else a) = true then (if firstStop a = true then a.tail else a).dropLast else (if firstStop a = true then a.tail else a)

def overItems (l : List Wd) : List Item := overTail (comp false (l.map Wd.item))

/-- the cursor over a text -/
def overCur (s : ByteArray) : Cur :=
  if (wordRead s).2.2.2 = 0 then ⟨overItems (wordRead s).1, 0, 0, 0⟩ else ⟨[], (wordRead s).2.2.2, (wordRead s).2.1, (wordRead s).2.2.1⟩

def OverPost (s : ByteArray) (w : World) (e : Ending) (w' : World) : Prop :=
  ∃ b ib, e = .returned (.pointer (some ⟨b, 0, none⟩)) ∧ w.heap.size ≤ b ∧ w.heap.size ≤ ib ∧ CS w' b ib (overCur s) ∧ Keeps (fun _ => False) w w'

theorem wordRead_bad (s : ByteArray) (h : (wordRead s).2.2.2 ≠ 0) : (wordRead s).1 = [] := by
  unfold wordRead at *
  split at h
  · exact absurd rfl h
  · rename_i h2
    rw [if_neg h2]

theorem rdLoop_fits (s : ByteArray) : ∀ (f k : Nat) (st : Rd), k ≤ s.size + 4 → st.Fits k → (rdLoop s f k st).words.length ≤ 2 * (s.size + 4) + 1
  | 0, k, st, hk, h => by
    have := h.words
    show st.words.length ≤ _
    omega
  | f + 1, k, st, hk, h => by
    have hl : ∀ b, (st.look b).words.length ≤ st.words.length + 1 := by
      intro b
      unfold Rd.look
      split
      · have h1 := close_words st
        have h2 : (st.close.fail 6 st.line st.col).words = st.close.words := fail_words _ _ _ _
        rw [h2]
        exact h1
      · omega
    have hw := h.words
    rw [rdLoop]
    split
    · split
      · rename_i h1 h2
        have hlook : st.look (badRune s k (Utf8.decode s k).1) = st := by
          cases hb : badRune s k (Utf8.decode s k).1 with
          | true => rw [hb] at h2; exact absurd h2 (look_bad st)
          | false => rfl
        rw [hlook]
        exact rdLoop_fits s f _ _ (by have := decode_four s k; omega) (go_fits h (decode_pos s k) _)
      · have := hl (badRune s k (Utf8.decode s k).1)
        omega
    · omega

theorem read_len (s : ByteArray) (hs : s.size ≤ 1000000000) : (wordRead s).1.length ≤ 3000000000 := by
  unfold wordRead
  split
  · have h1 := close_words (rdLoop s (s.size + 1) 0 Rd.init)
    have h2 := rdLoop_fits s (s.size + 1) 0 Rd.init (by omega) init_fits
    show (rdAll s).words.length ≤ _
    unfold rdAll
    omega
  · simp

theorem Has.form (h : Has) : ∃ t v, h.v = .iface t v := by cases h <;> exact ⟨_, _, rfl⟩

theorem three_one (a b : Int) (t : TypeId) (v : Value) : ∀ u ∈ [Value.int .i64 a, .int .i64 b, .iface t v], u.oneCell' = true := by
  intro u hu
  simp at hu
  rcases hu with rfl | rfl | rfl <;> rfl

theorem grown_far {w : World} {base : Nat} {e : TypeId} {size : Nat} {v : Value} {n : Nat} {xs : List Value} (h : w.ownsRow base e size v n xs) {b : Nat} {cs : Array Value} {t : TypeId} {fr : Nat × Nat}
    (hb : w.heap[b]? = some (.cells cs t fr)) (ht : t ≠ e) {o : Obj} {w5 : World} (hg : (w.alloc o).grownBy w5 v.ownBlock) : w5.heap[b]? = some (.cells cs t fr) := by
  rw [hg.block b (by have := lt_of_heap hb; simp; omega) (fun q => own_ne h hb ht q.symm)]
  exact blk_alloc hb o

theorem compact_small (w : World) (A : Option Addr) (n c : Nat) (f : Value) (h : n < 2) :
    Calls Tryd.prog 30 #[.slice A n c, f] w fun e w' => e = .returned (.slice A n c) ∧ w = w' := by
  have b2 : decide ((n : Int) < 2) = true := by simp; omega
  clear h
  go_enter Tryd.func30, Tryd.ntmps30
  go_wp2
  go_ret
  exact ⟨rfl, rfl⟩

/-- a row that is owned, as the walk of CompactFunc wants it -/
theorem own_row {w : World} {base : Nat} {A : Option Addr} {c : Nat} {its : List Item} (h : w.ownsRow base 70 3 (.slice A its.length c) its.length (icells its)) (hn : 0 < its.length) :
    ∃ g cur, A = some ⟨g, 0, none⟩ ∧ base ≤ g ∧ RowF w g c cur ∧ its.length ≤ c ∧ c ≤ 9223372036854775807 ∧ ∀ i x, its[i]? = some x → ItemAt cur i x := by
  rcases h.2 with ⟨_, h0⟩ | ⟨g, cap, cur, hv, hg, hb, hle, hm, hs, ht⟩
  · omega
  · simp only [Value.slice.injEq] at hv
    obtain ⟨rfl, _, rfl⟩ := hv
    refine ⟨g, cur, rfl, hg, ⟨hb, hs⟩, hle, hm, fun i x hi => ?_⟩
    obtain ⟨h1, h2, h3⟩ := icells_at its i x hi
    have hlt : i < its.length := (List.getElem?_eq_some_iff.1 hi).1
    have hq : ∀ j, j < its.length * 3 → cur[j]? = (icells its)[j]? := by
      intro j hj
      rw [← ht, List.getElem?_take_of_lt hj, Array.getElem?_toList]
    exact ⟨(hq _ (by omega)).trans h1, (hq _ (by omega)).trans h2, (hq _ (by omega)).trans h3⟩

theorem comp_wrap {w wr : World} {l : List Wd} {wA : Option Addr} {wc : Nat} {its : List Item} {A : Option Addr} {c : Nat} (h : OvAt w wr l wA wc its A c) :
    Calls Tryd.prog 30 #[.slice A its.length c, .func (.func 31) #[] #[]] wr fun e w' => ∃ ib, e = .returned (.slice A (comp false its).length c) ∧ w.heap.size < ib ∧
      w'.heap[w.heap.size]? = some (CurBlk A c ⟨its, 0, 0, 0⟩) ∧ RowIn w' ib A (comp false its) ∧ Keeps (fun _ => False) w w' ∧ its.length ≤ c ∧ c ≤ 9223372036854775807 := by
  rcases Nat.eq_zero_or_pos its.length with h0 | hpos
  · have e0 : its = [] := List.eq_nil_of_length_eq_zero h0
    subst e0
    refine (compact_small wr A 0 c _ (by decide)).mono ?_
    rintro e w' ⟨rfl, rfl⟩
    refine ⟨w.heap.size + 1, rfl, by omega, h.blk, fun hn => absurd rfl hn, h.keep, Nat.zero_le _, ?_⟩
    rcases h.own.2 with ⟨hv, _⟩ | ⟨g, cap, cur, hv, _, _, _, hm, _⟩
    · simp only [Value.slice.injEq] at hv
      omega
    · simp only [Value.slice.injEq] at hv
      obtain ⟨_, _, rfl⟩ := hv
      exact hm
  · obtain ⟨g, cur, rfl, hg, hrow, hle, hm, hit⟩ := own_row h.own hpos
    refine (compact_calls wr g c cur its hrow hit hle hm).mono ?_
    rintro e w' ⟨rfl, hk, cur', hr', hit'⟩
    have hgne : w.heap.size ≠ g := by omega
    refine ⟨g, rfl, by omega, hk.heap h.blk hgne, ?_, h.keep.trans' hk (by omega), hle, hm⟩
    intro _
    refine ⟨0, rfl, fun j x hj => ?_⟩
    obtain ⟨h1, h2, h3⟩ := hit' j x hj
    refine ⟨?_, ?_, ?_⟩
    · rw [show 0 + 3 * j = j * 3 by omega]; exact (hr'.cell _).trans h1
    · rw [show 0 + 3 * j + 1 = j * 3 + 1 by omega]; exact (hr'.cell _).trans h2
    · rw [show 0 + 3 * j + 2 = j * 3 + 2 by omega]; exact (hr'.cell _).trans h3

/-- the last item of a cursor, and the cursor without it -/
theorem CS.last {W : World} {b ib : Nat} {l : List Item} (h : CS W b ib ⟨l, 0, 0, 0⟩) (hl : l ≠ []) :
    ∃ off c y, W.cell? ⟨b, 0, none⟩ = some (.slice (some ⟨ib, off, none⟩) l.length c) ∧ l.getLast? = some y ∧ l.length ≤ c ∧ c ≤ 9223372036854775807 ∧
      W.cell? ⟨ib, off + (l.length - 1) * 3, none⟩ = some (.int .i64 y.line) ∧ W.cell? ⟨ib, off + (l.length - 1) * 3 + 1, none⟩ = some (.int .i64 y.col) ∧ W.cell? ⟨ib, off + (l.length - 1) * 3 + 2, none⟩ = some y.has.v ∧
      ∀ W', Keeps (fun _ => False) W W' → W'.cell? ⟨b, 0, none⟩ = some (.slice (some ⟨ib, off, none⟩) l.length c) ∧ W'.frozen? ⟨b, 0, none⟩ = false ∧
        CS (W'.setCell ⟨b, 0, none⟩ (.slice (some ⟨ib, off, none⟩) (l.length - 1) c)) b ib ⟨l.dropLast, 0, 0, 0⟩ := by
  obtain ⟨A, c, hb, hle, hc, hr, hne⟩ := h
  obtain ⟨off, rfl, hx⟩ := hr hl
  have hpos : 0 < l.length := List.length_pos_iff.2 hl
  have hy : l[l.length - 1]? = some (l.getLast hl) := by
    rw [← List.getLast?_eq_getElem?, List.getLast?_eq_some_getLast hl]
  obtain ⟨h1, h2, h3⟩ := hx _ _ hy
  refine ⟨off, c, l.getLast hl, (blk_cell hb 0).trans rfl, List.getLast?_eq_some_getLast hl, hle, hc, ?_, ?_, ?_, ?_⟩
  · rw [show off + (l.length - 1) * 3 = off + 3 * (l.length - 1) by omega]; exact h1
  · rw [show off + (l.length - 1) * 3 + 1 = off + 3 * (l.length - 1) + 1 by omega]; exact h2
  · rw [show off + (l.length - 1) * 3 + 2 = off + 3 * (l.length - 1) + 2 by omega]; exact h3
  · intro W' hk
    have hb' := hk.heap hb (by simp)
    refine ⟨(blk_cell hb' 0).trans rfl, blk_free hb' 0, some ⟨ib, off, none⟩, c, ?_, ?_, hc, ?_, hne⟩
    · have := blk_set hb' 0 (.slice (some ⟨ib, off, none⟩) (l.length - 1) c)
      rw [this]
      simp [CurBlk]
    · show l.dropLast.length ≤ c
      have hle2 : l.length ≤ c := hle
      rw [List.length_dropLast]
      omega
    · intro _
      refine ⟨off, rfl, fun j z hj => ?_⟩
      have hj2 : l[j]? = some z := by
        change l.dropLast[j]? = some z at hj
        rw [List.getElem?_dropLast] at hj
        split at hj
        · exact hj
        · cases hj
      obtain ⟨a1, a2, a3⟩ := hx j z hj2
      have k1 : Keeps (fun k => k = b) W (W'.setCell ⟨b, 0, none⟩ (.slice (some ⟨ib, off, none⟩) (l.length - 1) c)) := (hk.mono (fun _ _ q => q.elim)).set1 0 _
      exact ⟨k1.cell' a1 hne, k1.cell' a2 hne, k1.cell' a3 hne⟩

theorem overTail_nil : overTail [] = [] := rfl

theorem overTail_eq {a b : List Item} (hb : (if firstStop a = true then a.tail else a) = b) {y : Item} (hy : b.getLast? = some y) : overTail a = if y.has.isStop = true then b.dropLast else b := by
  unfold overTail
  rw [hb]
  have : lastStop false b = y.has.isStop := by unfold lastStop; rw [hy]
  rw [this]

/-- behind CompactFunc and the store: a cursor -/
theorem compact_cs {w w2 : World} {ib : Nat} {its a : List Item} {A : Option Addr} {c : Nat} (hib : w.heap.size < ib) (hb : w2.heap[w.heap.size]? = some (CurBlk A c ⟨its, 0, 0, 0⟩))
    (hr : RowIn w2 ib A a) (hk : Keeps (fun _ => False) w w2) (hlc : its.length ≤ c) (hc : c ≤ 9223372036854775807) (hla : a.length ≤ its.length) :
    CS (w2.setCell ⟨w.heap.size, 0, none⟩ (.slice A a.length c)) w.heap.size ib ⟨a, 0, 0, 0⟩ ∧ Keeps (fun _ => False) w (w2.setCell ⟨w.heap.size, 0, none⟩ (.slice A a.length c)) := by
  refine ⟨⟨A, c, blk_set hb 0 _, by show a.length ≤ c; omega, hc, hr.keeps (keeps1 w2 w.heap.size 0 _) (by omega), by omega⟩, hk.setCell (p := ⟨w.heap.size, 0, none⟩) (Or.inr (Nat.le_refl _)) _⟩

theorem held_eq (x : Wd) (w : World) : Calls Tryd.prog 29 #[.agg #[.int .i64 x.kind, .string x.text, .int .i64 x.n, .int .i64 x.line, .int .i64 x.col]] w fun e w' => e = .returned x.item.has.v ∧ Keeps (fun _ => False) w w' := held_calls x w

set_option maxRecDepth 100000 in
set_option maxHeartbeats 4000000 in
theorem Over_calls (s : ByteArray) (w : World) (hs : s.size ≤ 1000000000) (hG : Glob w) (h8 : 4 ≤ w.heap.size) :
    Calls Tryd.prog 9 #[.string s] w (OverPost s w) := by
  have hA0 : Keeps (fun _ => False) w (w.alloc (.cells #[.slice none 0 0, .int .i64 0, .int .i64 0, .int .i64 0, .bool true] 67)) := (Keeps.refl _ _).alloc _
  have Hread := Lib.hid (read_calls s (w.alloc (.cells #[.slice none 0 0, .int .i64 0, .int .i64 0, .int .i64 0, .bool true] 67)) hs (hG.keeps hA0 (by simp)) (by simp; omega))
  have HA0 := Lib.hid hA0
  clear hG h8 hA0
  by_cases hbad : (wordRead s).2.2.2 = 0
  · have b1 : ((wordRead s).2.2.2 != 0) = false := by simpa using hbad
    have hcur : overCur s = ⟨overItems (wordRead s).1, 0, 0, 0⟩ := by unfold overCur; rw [if_pos hbad]
    have Hcur := Lib.hid hcur
    have hlen : (wordRead s).1.length ≤ 3000000000 := read_len s hs
    clear hbad hcur
    go_enter Tryd.func9, Tryd.ntmps9
    go_wp2_with (first | (go_at_call 8; refine Hread.out.mono ?_; rintro e w1 ⟨wA, wc, rfl, ho, hk⟩; have hb1 : w1.heap[w.heap.size]? = some (CurBlk none 0 ⟨[], 0, 0, 0⟩) := hk.heap (blk_new w _) (by simp); have Ho := Lib.hid ho; have Hk := Lib.hid (HA0.out.trans hk); have Hb1 := Lib.hid hb1; have c1 : w1.cell? ⟨w.heap.size, 1, none⟩ = some (.int .i64 0) := (blk_cell hb1 1).trans rfl; have c2 : w1.cell? ⟨w.heap.size, 2, none⟩ = some (.int .i64 0) := (blk_cell hb1 2).trans rfl; have c3 : w1.cell? ⟨w.heap.size, 3, none⟩ = some (.int .i64 0) := (blk_cell hb1 3).trans rfl; have f1 := blk_free hb1 1; have f2 := blk_free hb1 2; have f3 := blk_free hb1 3; clear ho hk hb1))
    clear c1 c2 c3 f1 f2 f3
    have Hst := Lib.hid (show OvAt w w1 (wordRead s).1 wA wc (((wordRead s).1.take 0).map Wd.item) none 0 from ⟨Hb1.out, World.ownsRow_nil _ _ _ _, by have := Ho.out; simpa using this, Hk.out⟩)
    clear Ho Hk Hb1
    generalize (wordRead s).1 = l at *
    go_loopw [35] (fun v wr => ∃ (k : Nat) (A : Option Addr) (c : Nat), k ≤ l.length ∧ v = .int .i64 k ∧ Hid (OvAt w wr l wA wc ((l.take k).map Wd.item) A c)) (fun v _ => l.length - (intOf v).toNat)
    case atStart => exact ⟨0, none, 0, Nat.zero_le _, rfl, Hst⟩
    case round =>
      obtain ⟨k, A, c, hk, rfl, HA⟩ := hrel
      clear Hst
      by_cases hlt : k < l.length
      · have hx : l[k]? = some l[k] := by simp [hlt]
        obtain ⟨g, rfl, hg, x0, x1, x2, x3, x4⟩ := own_word HA.out.words hx
        have e2 : (l.take (k + 1)).map Wd.item = (l.take k).map Wd.item ++ [l[k].item] := by rw [List.take_add_one, hx, List.map_append]; rfl
        have E2 := Lib.hid e2
        have hil : ((l.take k).map Wd.item).length ≤ 3000000000 := by simp; omega
        clear e2 hx
        generalize l[k] = x at *
        generalize (l.take k).map Wd.item = its at *
        have n0 : wr.cell? ⟨w.heap.size, 0, none⟩ = some (.slice A its.length c) := (blk_cell HA.out.blk 0).trans rfl
        have nlt := lt_of_heap HA.out.blk
        obtain ⟨ht, hv, hhv0⟩ := x.item.has.form
        have hcells := Lib.hid (show x.item.cells = [.int .i64 x.line, .int .i64 x.col, .iface ht hv] from by
          show [.int .i64 x.line, .int .i64 x.col, x.item.has.v] = _
          rw [hhv0])
        have hhv := Lib.hid hhv0
        clear hhv0
        obtain ⟨i0, hi, hz0, hz1, hz2⟩ := info_parts info_item
        go_wp2_with fail
        refine start_ (n := 20) (S := (fun w' => w'.cell? ⟨w.heap.size, 0, none⟩ = some (.slice A its.length c) ∧ w'.cell? ⟨wr.heap.size, 0, none⟩ = some (.int .i64 x.kind) ∧ w'.cell? ⟨wr.heap.size, 1, none⟩ = some (.string x.text) ∧ w'.cell? ⟨wr.heap.size, 2, none⟩ = some (.int .i64 x.n) ∧ w'.cell? ⟨wr.heap.size, 3, none⟩ = some (.int .i64 x.line) ∧ w'.cell? ⟨wr.heap.size, 4, none⟩ = some (.int .i64 x.col))) (ds := [19]) #[false, false, false, false, false, false, false, false, false, false, false, false, false, false, false, false, false, false, false, false] (by kernel_rfl) rfl rfl ⟨(blk_cell (blk_drew (blk_alloc HA.out.blk _)) 0).trans rfl, (blk_cell (blk_drew (blk_new wr (.cells #[.int .i64 x.kind, .string x.text, .int .i64 x.n, .int .i64 x.line, .int .i64 x.col] 33))) 0).trans rfl, (blk_cell (blk_drew (blk_new wr (.cells #[.int .i64 x.kind, .string x.text, .int .i64 x.n, .int .i64 x.line, .int .i64 x.col] 33))) 1).trans rfl, (blk_cell (blk_drew (blk_new wr (.cells #[.int .i64 x.kind, .string x.text, .int .i64 x.n, .int .i64 x.line, .int .i64 x.col] 33))) 2).trans rfl, (blk_cell (blk_drew (blk_new wr (.cells #[.int .i64 x.kind, .string x.text, .int .i64 x.n, .int .i64 x.line, .int .i64 x.col] 33))) 3).trans rfl, (blk_cell (blk_drew (blk_new wr (.cells #[.int .i64 x.kind, .string x.text, .int .i64 x.n, .int .i64 x.line, .int .i64 x.col] 33))) 4).trans rfl⟩ (fun hHeld => ?_)
        refine pure_ (i := 0) (N := some 39) (v := ?_) (a' := ?_) #[true, false, false, false, false, false, false, false, false, false, false, false, false, false, false, false, false, false, false, false] rfl rfl (by kernel_rfl) (fun _ _ _ h => h) (Or.inl ⟨by rfl, ?_⟩) ?_ ?_
        rotate_left
        · intro w'
          go_simp
          with_reducible rfl
        rotate_left
        · simp only [Act.put, List.setIfInBounds_toArray, List.set_cons_zero, List.set_cons_succ]
          rfl
        refine pure_ (i := 1) (N := some 40) (v := ?_) (a' := ?_) #[true, true, false, false, false, false, false, false, false, false, false, false, false, false, false, false, false, false, false, false] rfl rfl (by kernel_rfl) (fun _ _ _ h => h) (Or.inl ⟨by rfl, ?_⟩) ?_ ?_
        rotate_left
        · intro w'
          go_simp
          with_reducible rfl
        rotate_left
        · simp only [Act.put, List.setIfInBounds_toArray, List.set_cons_zero, List.set_cons_succ]
          rfl
        refine pure_ (i := 2) (N := some 41) (v := ?_) (a' := ?_) #[true, true, true, false, false, false, false, false, false, false, false, false, false, false, false, false, false, false, false, false] rfl rfl (by kernel_rfl) (fun _ _ _ h => h) (Or.inl ⟨by rfl, ?_⟩) ?_ ?_
        rotate_left
        · intro w'
          go_simp
          with_reducible rfl
        rotate_left
        · simp only [Act.put, List.setIfInBounds_toArray, List.set_cons_zero, List.set_cons_succ]
          rfl
        refine pure_ (i := 3) (N := some 42) (v := ?_) (a' := ?_) #[true, true, true, true, false, false, false, false, false, false, false, false, false, false, false, false, false, false, false, false] rfl rfl (by kernel_rfl) (fun _ _ _ h => h) (Or.inl ⟨by rfl, ?_⟩) ?_ ?_
        rotate_left
        · intro w'
          go_simp
          with_reducible rfl
        rotate_left
        · simp only [Act.put, List.setIfInBounds_toArray, List.set_cons_zero, List.set_cons_succ]
          rfl
        refine pure_ (i := 4) (N := some 43) (v := ?_) (a' := ?_) #[true, true, true, true, true, false, false, false, false, false, false, false, false, false, false, false, false, false, false, false] rfl rfl (by kernel_rfl) (fun _ _ _ h => h) (Or.inl ⟨by rfl, ?_⟩) ?_ ?_
        rotate_left
        · intro w'
          go_simp
          with_reducible rfl
        rotate_left
        · simp only [Act.put, List.setIfInBounds_toArray, List.set_cons_zero, List.set_cons_succ]
          rfl
        refine take_ (i := 5) (N := some 44) (v := ?_) (a' := ?_) #[true, true, true, true, true, true, false, false, false, false, false, false, false, false, false, false, false, false, false, false] rfl rfl (by kernel_rfl) (fun _ _ _ h => h) (Or.inl ⟨by rfl, ?_⟩) hHeld ?_ ?_
        rotate_left
        · intro w' hSw
          obtain ⟨hs0, hs1, hs2, hs3, hs4, hs5⟩ := hSw
          go_simp
          with_reducible rfl
        rotate_left
        · simp only [Act.put, List.setIfInBounds_toArray, List.set_cons_zero, List.set_cons_succ]
          rfl
        refine pure_ (i := 6) (N := some 45) (v := ?_) (a' := ?_) #[true, true, true, true, true, true, true, false, false, false, false, false, false, false, false, false, false, false, false, false] rfl rfl (by kernel_rfl) (fun _ _ _ h => h) (Or.inl ⟨by rfl, ?_⟩) ?_ ?_
        rotate_left
        · intro w'
          go_simp
          with_reducible rfl
        rotate_left
        · simp only [Act.put, List.setIfInBounds_toArray, List.set_cons_zero, List.set_cons_succ]
          rfl
        refine take_ (i := 7) (N := some 46) (v := ?_) (a' := ?_) #[true, true, true, true, true, true, true, true, false, false, false, false, false, false, false, false, false, false, false, false] rfl rfl (by kernel_rfl) (fun _ _ _ h => h) (Or.inl ⟨by rfl, ?_⟩) hHeld ?_ ?_
        rotate_left
        · intro w' hSw
          obtain ⟨hs0, hs1, hs2, hs3, hs4, hs5⟩ := hSw
          go_simp
          with_reducible rfl
        rotate_left
        · simp only [Act.put, List.setIfInBounds_toArray, List.set_cons_zero, List.set_cons_succ]
          rfl
        refine pure_ (i := 8) (N := some 47) (v := ?_) (a' := ?_) #[true, true, true, true, true, true, true, true, true, false, false, false, false, false, false, false, false, false, false, false] rfl rfl (by kernel_rfl) (fun _ _ _ h => h) (Or.inl ⟨by rfl, ?_⟩) ?_ ?_
        rotate_left
        · intro w'
          go_simp
          with_reducible rfl
        rotate_left
        · simp only [Act.put, List.setIfInBounds_toArray, List.set_cons_zero, List.set_cons_succ]
          rfl
        refine take_ (i := 9) (N := some 48) (v := ?_) (a' := ?_) #[true, true, true, true, true, true, true, true, true, true, false, false, false, false, false, false, false, false, false, false] rfl rfl (by kernel_rfl) (fun _ _ _ h => h) (Or.inl ⟨by rfl, ?_⟩) hHeld ?_ ?_
        rotate_left
        · intro w' hSw
          obtain ⟨hs0, hs1, hs2, hs3, hs4, hs5⟩ := hSw
          go_simp
          with_reducible rfl
        rotate_left
        · simp only [Act.put, List.setIfInBounds_toArray, List.set_cons_zero, List.set_cons_succ]
          rfl
        refine pure_ (i := 10) (N := some 49) (v := ?_) (a' := ?_) #[true, true, true, true, true, true, true, true, true, true, true, false, false, false, false, false, false, false, false, false] rfl rfl (by kernel_rfl) (fun _ _ _ h => h) (Or.inl ⟨by rfl, ?_⟩) ?_ ?_
        rotate_left
        · intro w'
          go_simp
          with_reducible rfl
        rotate_left
        · simp only [Act.put, List.setIfInBounds_toArray, List.set_cons_zero, List.set_cons_succ]
          rfl
        refine take_ (i := 11) (N := some 50) (v := ?_) (a' := ?_) #[true, true, true, true, true, true, true, true, true, true, true, true, false, false, false, false, false, false, false, false] rfl rfl (by kernel_rfl) (fun _ _ _ h => h) (Or.inl ⟨by rfl, ?_⟩) hHeld ?_ ?_
        rotate_left
        · intro w' hSw
          obtain ⟨hs0, hs1, hs2, hs3, hs4, hs5⟩ := hSw
          go_simp
          with_reducible rfl
        rotate_left
        · simp only [Act.put, List.setIfInBounds_toArray, List.set_cons_zero, List.set_cons_succ]
          rfl
        refine one_ (i := 12) (N := some 51) #[true, true, true, true, true, true, true, true, true, true, true, true, true, false, false, false, false, false, false, false] rfl rfl (by kernel_rfl) (by decide) (fun K hK => ?_)
        refine goes_ (f := 29) Tryd.func29 (by kernel_rfl) rfl #[.agg #[.int .i64 x.kind, .string x.text, .int .i64 x.n, .int .i64 x.line, .int .i64 x.col]] (by rfl) rfl rfl (by simp only [List.map_toArray, List.map_cons, List.map_nil]; rfl) ?_
        refine (held_eq x _).mono ?_
        rw [hhv.out]
        rintro e w3 ⟨rfl, hk0⟩
        refine ⟨_, rfl, ?_⟩
        have hA3 := HA.out.keep0 ((((Keeps.refl (fun _ => False) wr).alloc _).drew).trans hk0)
        have hbx := hk0.heap (blk_drew (blk_new wr (.cells #[.int .i64 x.kind, .string x.text, .int .i64 x.n, .int .i64 x.line, .int .i64 x.col] 33))) (by simp)
        refine hK.out _ _ ⟨(blk_cell hA3.blk 0).trans rfl, (blk_cell hbx 0).trans rfl, (blk_cell hbx 1).trans rfl, (blk_cell hbx 2).trans rfl, (blk_cell hbx 3).trans rfl, (blk_cell hbx 4).trans rfl⟩ (fun hHeld => ?_)
        clear hK K
        refine norm_ (a' := ?na12) ?nb12 ?nc12
        case nb12 =>
          simp only [Act.put, List.setIfInBounds_toArray, List.set_cons_zero, List.set_cons_succ]
          rfl
        refine pure_ (i := 13) (N := some 52) (v := ?_) (a' := ?_) #[true, true, true, true, true, true, true, true, true, true, true, true, true, true, false, false, false, false, false, false] rfl rfl (by kernel_rfl) (fun _ _ _ h => h) (Or.inl ⟨by rfl, ?_⟩) ?_ ?_
        rotate_left
        · intro w'
          go_simp
          with_reducible rfl
        rotate_left
        · simp only [Act.put, List.setIfInBounds_toArray, List.set_cons_zero, List.set_cons_succ]
          rfl
        refine one_ (i := 14) (N := some 53) #[true, true, true, true, true, true, true, true, true, true, true, true, true, true, true, false, false, false, false, false] rfl rfl (by kernel_rfl) (by decide) (fun K hK => ?_)
        refine value_ (v := .slice (some ⟨w3.heap.size, 0, none⟩) 1 1) (w1 := w3.alloc (.cells #[.int .i64 x.line, .int .i64 x.col, .iface ht hv] 70)) (by rfl) rfl (by go_simp) ?_
        refine hK.out _ _ ⟨(blk_cell (blk_alloc hA3.blk _) 0).trans rfl, (blk_cell (blk_alloc hbx _) 0).trans rfl, (blk_cell (blk_alloc hbx _) 1).trans rfl, (blk_cell (blk_alloc hbx _) 2).trans rfl, (blk_cell (blk_alloc hbx _) 3).trans rfl, (blk_cell (blk_alloc hbx _) 4).trans rfl⟩ (fun hHeld => ?_)
        clear hK K
        refine norm_ (a' := ?na14) ?nb14 ?nc14
        case nb14 =>
          simp only [Act.put, List.setIfInBounds_toArray, List.set_cons_zero, List.set_cons_succ]
          rfl
        refine one_ (i := 15) (N := some 54) #[true, true, true, true, true, true, true, true, true, true, true, true, true, true, true, true, false, false, false, false] rfl rfl (by kernel_rfl) (by decide) (fun K hK => ?_)
        refine step_append_lies _ (by rfl) (.tmp 44) (.tmp 53) 61 (by rfl) (w.heap.size + 1) 70 i0 (.agg #[.int .i64 0, .int .i64 0, .nilIface]) 3 32 Tryd.underlying61 hi hz0 hz1 hz2 rfl (by decide) (.slice A its.length c) its.length (icells its) (by rfl) (hA3.own.alloc _) ⟨w3.heap.size, 0, none⟩ 1 1 [.int .i64 x.line, .int .i64 x.col, .iface ht hv] (by rfl) (by rfl) (World.news_of_block (blk_new w3 _)) (three_one _ _ _ _) (by decide) (by unfold maxLen; omega) (by omega) (by have := lt_of_heap hA3.blk; simp; omega) (w3.heap.size + 1) (by simp) ?_
        intro g2 cap2 w5 hw1 hw2 hw3 hw4
        rw [← hcells.out] at hw1
        obtain ⟨hb5, hfin⟩ := OvAt.fin (hA3.keep0 ((Keeps.refl _ w3).alloc _)) x.item hw1 hw2
        have hbx5 := grown_far hA3.own hbx (by decide) hw2
        refine hK.out _ _ ⟨(blk_cell hb5 0).trans rfl, (blk_cell hbx5 0).trans rfl, (blk_cell hbx5 1).trans rfl, (blk_cell hbx5 2).trans rfl, (blk_cell hbx5 3).trans rfl, (blk_cell hbx5 4).trans rfl⟩ (fun hHeld => ?_)
        clear hK K
        refine norm_ (a' := ?na15) ?nb15 ?nc15
        case nb15 =>
          simp only [Act.put, List.setIfInBounds_toArray, List.set_cons_zero, List.set_cons_succ]
          rfl
        refine pure_ (i := 16) (N := some 55) (v := ?_) (a' := ?_) #[true, true, true, true, true, true, true, true, true, true, true, true, true, true, true, true, true, false, false, false] rfl rfl (by kernel_rfl) (fun _ _ _ h => h) (Or.inl ⟨by rfl, ?_⟩) ?_ ?_
        rotate_left
        · intro w'
          go_simp
          with_reducible rfl
        rotate_left
        · simp only [Act.put, List.setIfInBounds_toArray, List.set_cons_zero, List.set_cons_succ]
          rfl
        refine pure_ (i := 17) (N := some 56) (v := ?_) (a' := ?_) #[true, true, true, true, true, true, true, true, true, true, true, true, true, true, true, true, true, true, false, false] rfl rfl (by kernel_rfl) (fun _ _ _ h => h) (Or.inl ⟨by rfl, ?_⟩) ?_ ?_
        rotate_left
        · intro w'
          go_simp
          with_reducible rfl
        rotate_left
        · simp only [Act.put, List.setIfInBounds_toArray, List.set_cons_zero, List.set_cons_succ]
          rfl
        refine pure_ (i := 18) (N := some 57) (v := ?_) (a' := ?_) #[true, true, true, true, true, true, true, true, true, true, true, true, true, true, true, true, true, true, true, false] rfl rfl (by kernel_rfl) (fun _ _ _ h => h) (Or.inl ⟨by rfl, ?_⟩) ?_ ?_
        rotate_left
        · intro w'
          go_simp
          with_reducible rfl
        rotate_left
        · simp only [Act.put, List.setIfInBounds_toArray, List.set_cons_zero, List.set_cons_succ]
          rfl
        refine last_ (i := 19) (N := none) #[true, true, true, true, true, true, true, true, true, true, true, true, true, true, true, true, true, true, true, true] rfl rfl (by kernel_rfl) (by decide) (fun K hK => ?_)
        have q0 : w5.cell? ⟨w.heap.size, 0, none⟩ = some (.slice A its.length c) := (blk_cell hb5 0).trans rfl
        have f0 := blk_free hb5 0
        refine skip_ (w1 := w5.setCell ⟨w.heap.size, 0, none⟩ (.slice (some ⟨g2, 0, none⟩) (its.length + 1) cap2)) (by rfl) rfl (by go_simp) ?_
        refine hK.out _ _ ?_
        have HF := Lib.hid hfin
        clear hK K
        refine done_ (by kernel_rfl) ?_
        clear hHeld hw1 hw2 hw3 hw4 hb5 hfin hbx5 q0 f0 hA3 hbx hk0
        clear x0 x1 x2 x3 x4 n0
        go_wp2
        go_roundw
        case rel => exact ⟨k + 1, _, _, by omega, by go_num, Lib.hid (by rw [E2.out]; exact HF.out)⟩
        case measure => simp [intOf]; omega
      · have hkl : k = l.length := by omega
        subst hkl
        have HA1 := HA.out
        rw [List.take_length] at HA1
        have HB := Lib.hid HA1
        clear HA1 HA
        have hil : (l.map Wd.item).length ≤ 3000000000 := by rw [List.length_map]; exact hlen
        have n0 : wr.cell? ⟨w.heap.size, 0, none⟩ = some (.slice A (l.map Wd.item).length c) := (blk_cell HB.out.blk 0).trans rfl
        have Hcw := Lib.hid (comp_wrap HB.out)
        have Hits := Lib.hid (show ∀ a, comp false (l.map Wd.item) = a → overItems l = overTail a from by intro a h; subst h; rfl)
        generalize l.map Wd.item = its at *
        have Hla0 : (comp false its).length ≤ its.length := comp_length_le _ _
        generalize comp false its = a at *
        have Hla := Lib.hid Hla0
        have hot := Hits.out a rfl
        clear Hits
        cases a with
        | nil =>
          have E3 := Lib.hid (hot.trans overTail_nil)
          clear hot Hla0
          have Hcw := Lib.hid (show _ from Hcw.out)
          go_wp2_with (first | (go_at_call 30; refine Hcw.out.mono ?_; rintro e w2 ⟨ib, rfl, hib, hb2, hr2, hk2, hlc, hc2⟩; have m0 : w2.cell? ⟨w.heap.size, 0, none⟩ = some (.slice A its.length c) := (blk_cell hb2 0).trans rfl; have f0 := blk_free hb2 0; obtain ⟨hcs2, hkw2⟩ := compact_cs hib hb2 hr2 hk2 hlc hc2 (by have := Hla.out; omega); have HCS2 := Lib.hid hcs2; have HKW2 := Lib.hid hkw2; have Hib := Lib.hid (show w.heap.size ≤ ib from by omega); clear hb2 hr2 hk2 hlc hc2 hcs2 hkw2 hib))
          go_ret
          refine ⟨w.heap.size, ib, rfl, Nat.le_refl _, Hib.out, ?_, HKW2.out⟩
          rw [Hcur.out, E3.out]
          exact HCS2.out
        | cons x r =>
          cases hx : x.has.isStop with
          | true =>
            have hb : (if firstStop (x :: r) = true then (x :: r).tail else (x :: r)) = r := by simp only [firstStop, hx, if_true, List.tail_cons]
            have Hx := Lib.hid hx
            clear hx
            rcases List.eq_nil_or_concat r with rfl | ⟨r', y, hr⟩
            · have E3 := Lib.hid (hot.trans (show overTail [x] = [] from by unfold overTail; rw [hb]; rfl))
              clear hot Hla0 hb
              have q5 : (0 : Int) < (([x] : List Item).length : Int) := by simp
              go_wp2_with (first | (go_at_call 30; refine Hcw.out.mono ?_; rintro e w2 ⟨ib, rfl, hib, hb2, hr2, hk2, hlc, hc2⟩; have m0 : w2.cell? ⟨w.heap.size, 0, none⟩ = some (.slice A its.length c) := (blk_cell hb2 0).trans rfl; have f0 := blk_free hb2 0; obtain ⟨hcs2, hkw2⟩ := compact_cs hib hb2 hr2 hk2 hlc hc2 (by have := Hla.out; omega); obtain ⟨off, rfl, hx0⟩ := hr2 (by simp); obtain ⟨xa, xb, xc⟩ := hx0 0 x rfl; have x0 : w2.cell? ⟨ib, off, none⟩ = some (.int .i64 x.line) := xa; have x1 : w2.cell? ⟨ib, off + 1, none⟩ = some (.int .i64 x.col) := xb; have x2 : w2.cell? ⟨ib, off + 2, none⟩ = some x.has.v := xc; have n1 : ¬ ib = w.heap.size := (by omega); have n2 : ¬ w.heap.size = ib := (by omega); clear hx0 xa xb xc; have HCS2 := Lib.hid hcs2; have HKW2 := Lib.hid hkw2; have Hib := Lib.hid (show w.heap.size ≤ ib from by omega); clear hb2 hr2 hk2 hlc hc2 hcs2 hkw2 hib) | (go_at_call 32; have _t1 := HCS2.out; refine (ended_calls x _).mono ?_; rw [Hx.out]; rintro e w4 ⟨rfl, hk4⟩; have HCS4 := Lib.hid (HCS2.out.keep0 hk4); have HKW4 := Lib.hid (HKW2.out.trans hk4); clear hk4 HCS2 HKW2) | (go_at_call 33; refine (over_calls HCS4.out (by simp)).mono ?_; rintro e w5 ⟨rfl, hcs5, hk5⟩; have HCS5 := Lib.hid (show CS w5 w.heap.size ib ⟨[], 0, 0, 0⟩ from hcs5); have HKW5 := Lib.hid (HKW4.out.trans' hk5 (by omega)); obtain ⟨A5, c5, q5, _⟩ := HCS5.out.cells; have o0 : w5.cell? ⟨w.heap.size, 0, none⟩ = some (.slice A5 0 c5) := q5; clear q5; clear hcs5 hk5))
              go_ret
              refine ⟨w.heap.size, ib, rfl, Nat.le_refl _, Hib.out, ?_, HKW5.out⟩
              rw [Hcur.out, E3.out]
              exact HCS5.out
            · have Hr := Lib.hid (show r ≠ [] from by rw [hr]; simp)
              have HY := Lib.hid (show r.getLast? = some y from by rw [hr]; simp)
              have hlen2 : 0 < r.length := List.length_pos_iff.2 Hr.out
              have hrl : r.length ≤ 3000000000 := by simp only [List.length_cons] at Hla0; omega
              have E3 := Lib.hid (hot.trans (overTail_eq hb HY.out))
              clear hot Hla0 hb hr
              have q1 : IntKind.i64.wrap ((r.length : Int) - 1) = (r.length : Int) - 1 := IntWalk.i64_in _ (by omega)
              have q2 : (0 : Int) ≤ (r.length : Int) - 1 := by omega
              have q2' : (1 : Int) ≤ (r.length : Int) := by omega
              have q3 : ((r.length : Int) - 1).toNat = r.length - 1 := by omega
              have q4 : (r.length : Int) - 1 < (r.length : Int) := by omega
              have q5 : (0 : Int) < (r.length : Int) := by omega
              have q6 : (0 : Int) < ((x :: r).length : Int) := by simp
              cases hys : y.has.isStop with
              | true =>
                have HYS := Lib.hid hys
                have E4 := Lib.hid (E3.out.trans (if_pos hys))
                clear hys
                go_wp2_with (first | (go_at_call 30; refine Hcw.out.mono ?_; rintro e w2 ⟨ib, rfl, hib, hb2, hr2, hk2, hlc, hc2⟩; have m0 : w2.cell? ⟨w.heap.size, 0, none⟩ = some (.slice A its.length c) := (blk_cell hb2 0).trans rfl; have f0 := blk_free hb2 0; obtain ⟨hcs2, hkw2⟩ := compact_cs hib hb2 hr2 hk2 hlc hc2 (by have := Hla.out; omega); obtain ⟨off, rfl, hx0⟩ := hr2 (by simp); obtain ⟨xa, xb, xc⟩ := hx0 0 x rfl; have x0 : w2.cell? ⟨ib, off, none⟩ = some (.int .i64 x.line) := xa; have x1 : w2.cell? ⟨ib, off + 1, none⟩ = some (.int .i64 x.col) := xb; have x2 : w2.cell? ⟨ib, off + 2, none⟩ = some x.has.v := xc; have n1 : ¬ ib = w.heap.size := (by omega); have n2 : ¬ w.heap.size = ib := (by omega); clear hx0 xa xb xc; have HCS2 := Lib.hid hcs2; have HKW2 := Lib.hid hkw2; have Hib := Lib.hid (show w.heap.size ≤ ib from by omega); clear hb2 hr2 hk2 hlc hc2 hcs2 hkw2 hib) | (go_at_call 32; have _t2 := Z5.out; refine (ended_calls y _).mono ?_; rw [HYS.out]; rintro e w6 ⟨rfl, hk6⟩; obtain ⟨v0, v1, v2⟩ := Z5.out _ hk6; have HCS6 := Lib.hid v2; have HKW6 := Lib.hid (HKW5.out.trans hk6); have HCSN := Lib.hid (HCS5.out.keep0 hk6); clear hk6 v2) | (go_at_call 32; have _t1 := HCS2.out; refine (ended_calls x _).mono ?_; rw [Hx.out]; rintro e w4 ⟨rfl, hk4⟩; have HCS4 := Lib.hid (HCS2.out.keep0 hk4); have HKW4 := Lib.hid (HKW2.out.trans hk4); clear hk4 HCS2 HKW2) | (go_at_call 33; refine (over_calls HCS4.out (by simp)).mono ?_; rintro e w5 ⟨rfl, hcs5, hk5⟩; have HCS5 := Lib.hid (show CS w5 w.heap.size ib ⟨r, 0, 0, 0⟩ from hcs5); have HKW5 := Lib.hid (HKW4.out.trans' hk5 (by omega)); obtain ⟨off3, c3, y3, z0, hy3, z1, z1b, z2, z3, z4, z5⟩ := HCS5.out.last Hr.out; obtain rfl := (Option.some.inj (hy3.symm.trans HY.out)).symm; have Z5 := Lib.hid z5; clear z5 hy3; clear hcs5 hk5))
                go_ret
                refine ⟨w.heap.size, ib, rfl, Nat.le_refl _, Hib.out, ?_, HKW6.out.setCell (p := ⟨w.heap.size, 0, none⟩) (Or.inr (Nat.le_refl _)) _⟩
                rw [Hcur.out, E4.out]
                exact HCS6.out
              | false =>
                have HYS := Lib.hid hys
                have E4 := Lib.hid (E3.out.trans (if_neg (by rw [hys]; decide)))
                clear hys
                go_wp2_with (first | (go_at_call 30; refine Hcw.out.mono ?_; rintro e w2 ⟨ib, rfl, hib, hb2, hr2, hk2, hlc, hc2⟩; have m0 : w2.cell? ⟨w.heap.size, 0, none⟩ = some (.slice A its.length c) := (blk_cell hb2 0).trans rfl; have f0 := blk_free hb2 0; obtain ⟨hcs2, hkw2⟩ := compact_cs hib hb2 hr2 hk2 hlc hc2 (by have := Hla.out; omega); obtain ⟨off, rfl, hx0⟩ := hr2 (by simp); obtain ⟨xa, xb, xc⟩ := hx0 0 x rfl; have x0 : w2.cell? ⟨ib, off, none⟩ = some (.int .i64 x.line) := xa; have x1 : w2.cell? ⟨ib, off + 1, none⟩ = some (.int .i64 x.col) := xb; have x2 : w2.cell? ⟨ib, off + 2, none⟩ = some x.has.v := xc; have n1 : ¬ ib = w.heap.size := (by omega); have n2 : ¬ w.heap.size = ib := (by omega); clear hx0 xa xb xc; have HCS2 := Lib.hid hcs2; have HKW2 := Lib.hid hkw2; have Hib := Lib.hid (show w.heap.size ≤ ib from by omega); clear hb2 hr2 hk2 hlc hc2 hcs2 hkw2 hib) | (go_at_call 32; have _t2 := Z5.out; refine (ended_calls y _).mono ?_; rw [HYS.out]; rintro e w6 ⟨rfl, hk6⟩; obtain ⟨v0, v1, v2⟩ := Z5.out _ hk6; have HCS6 := Lib.hid v2; have HKW6 := Lib.hid (HKW5.out.trans hk6); have HCSN := Lib.hid (HCS5.out.keep0 hk6); clear hk6 v2) | (go_at_call 32; have _t1 := HCS2.out; refine (ended_calls x _).mono ?_; rw [Hx.out]; rintro e w4 ⟨rfl, hk4⟩; have HCS4 := Lib.hid (HCS2.out.keep0 hk4); have HKW4 := Lib.hid (HKW2.out.trans hk4); clear hk4 HCS2 HKW2) | (go_at_call 33; refine (over_calls HCS4.out (by simp)).mono ?_; rintro e w5 ⟨rfl, hcs5, hk5⟩; have HCS5 := Lib.hid (show CS w5 w.heap.size ib ⟨r, 0, 0, 0⟩ from hcs5); have HKW5 := Lib.hid (HKW4.out.trans' hk5 (by omega)); obtain ⟨off3, c3, y3, z0, hy3, z1, z1b, z2, z3, z4, z5⟩ := HCS5.out.last Hr.out; obtain rfl := (Option.some.inj (hy3.symm.trans HY.out)).symm; have Z5 := Lib.hid z5; clear z5 hy3; clear hcs5 hk5))
                go_ret
                refine ⟨w.heap.size, ib, rfl, Nat.le_refl _, Hib.out, ?_, HKW6.out⟩
                rw [Hcur.out, E4.out]
                exact HCSN.out
          | false =>
            have hb0 : (if firstStop (x :: r) = true then (x :: r).tail else (x :: r)) = x :: r := by simp [firstStop, hx]
            obtain ⟨b, ha⟩ : ∃ b, b = x :: r := ⟨_, rfl⟩
            rw [← ha] at Hcw Hla hot hb0 Hla0
            have hb := hb0
            clear hb0
            have Ha := Lib.hid ha
            clear ha
            have Hx := Lib.hid hx
            clear hx
            obtain ⟨y, hy⟩ : ∃ y, b.getLast? = some y := ⟨_, List.getLast?_eq_some_getLast (by rw [Ha.out]; simp)⟩
            have HY := Lib.hid hy
            have hrl : b.length ≤ 3000000000 := by omega
            have hlen2 : 0 < b.length := by rw [Ha.out]; simp
            have E3 := Lib.hid (hot.trans (overTail_eq hb hy))
            clear hot Hla0 hb hy
            have q1 : IntKind.i64.wrap ((b.length : Int) - 1) = (b.length : Int) - 1 := IntWalk.i64_in _ (by omega)
            have q2 : (0 : Int) ≤ (b.length : Int) - 1 := by omega
            have q2' : (1 : Int) ≤ (b.length : Int) := by omega
            have q3 : ((b.length : Int) - 1).toNat = b.length - 1 := by omega
            have q4 : (b.length : Int) - 1 < (b.length : Int) := by omega
            have q5 : (0 : Int) < (b.length : Int) := by omega
            cases hys : y.has.isStop with
            | true =>
              have HYS := Lib.hid hys
              have E4 := Lib.hid (E3.out.trans (if_pos hys))
              clear hys
              go_wp2_with (first | (go_at_call 30; refine Hcw.out.mono ?_; rintro e w2 ⟨ib, rfl, hib, hb2, hr2, hk2, hlc, hc2⟩; have m0 : w2.cell? ⟨w.heap.size, 0, none⟩ = some (.slice A its.length c) := (blk_cell hb2 0).trans rfl; have f0 := blk_free hb2 0; obtain ⟨hcs2, hkw2⟩ := compact_cs hib hb2 hr2 hk2 hlc hc2 (by have := Hla.out; omega); obtain ⟨off, rfl, hx0⟩ := hr2 (by rw [Ha.out]; simp); obtain ⟨xa, xb, xc⟩ := hx0 0 x (by rw [Ha.out]; rfl); have x0 : w2.cell? ⟨ib, off, none⟩ = some (.int .i64 x.line) := xa; have x1 : w2.cell? ⟨ib, off + 1, none⟩ = some (.int .i64 x.col) := xb; have x2 : w2.cell? ⟨ib, off + 2, none⟩ = some x.has.v := xc; have n1 : ¬ ib = w.heap.size := (by omega); have n2 : ¬ w.heap.size = ib := (by omega); clear hx0 xa xb xc; have HCS2 := Lib.hid hcs2; have HKW2 := Lib.hid hkw2; have Hib := Lib.hid (show w.heap.size ≤ ib from by omega); clear hb2 hr2 hk2 hlc hc2 hcs2 hkw2 hib) | (go_at_call 32; have _t2 := Z5.out; refine (ended_calls y _).mono ?_; rw [HYS.out]; rintro e w6 ⟨rfl, hk6⟩; obtain ⟨v0, v1, v2⟩ := Z5.out _ hk6; have HCS6 := Lib.hid v2; have HKW6 := Lib.hid (HKW4.out.trans hk6); have HCSN := Lib.hid (HCS4.out.keep0 hk6); clear hk6 v2) | (go_at_call 32; have _t1 := HCS2.out; refine (ended_calls x _).mono ?_; rw [Hx.out]; rintro e w4 ⟨rfl, hk4⟩; have HCS4 := Lib.hid (HCS2.out.keep0 hk4); have HKW4 := Lib.hid (HKW2.out.trans hk4); obtain ⟨off3, c3, y3, z0, hy3, z1, z1b, z2, z3, z4, z5⟩ := HCS4.out.last (by rw [Ha.out]; simp); obtain rfl := (Option.some.inj (hy3.symm.trans HY.out)).symm; have Z5 := Lib.hid z5; clear z5 hy3; clear hk4 HCS2 HKW2))
              go_ret
              refine ⟨w.heap.size, ib, rfl, Nat.le_refl _, Hib.out, ?_, HKW6.out.setCell (p := ⟨w.heap.size, 0, none⟩) (Or.inr (Nat.le_refl _)) _⟩
              rw [Hcur.out, E4.out]
              exact HCS6.out
            | false =>
              have HYS := Lib.hid hys
              have E4 := Lib.hid (E3.out.trans (if_neg (by rw [hys]; decide)))
              clear hys
              go_wp2_with (first | (go_at_call 30; refine Hcw.out.mono ?_; rintro e w2 ⟨ib, rfl, hib, hb2, hr2, hk2, hlc, hc2⟩; have m0 : w2.cell? ⟨w.heap.size, 0, none⟩ = some (.slice A its.length c) := (blk_cell hb2 0).trans rfl; have f0 := blk_free hb2 0; obtain ⟨hcs2, hkw2⟩ := compact_cs hib hb2 hr2 hk2 hlc hc2 (by have := Hla.out; omega); obtain ⟨off, rfl, hx0⟩ := hr2 (by rw [Ha.out]; simp); obtain ⟨xa, xb, xc⟩ := hx0 0 x (by rw [Ha.out]; rfl); have x0 : w2.cell? ⟨ib, off, none⟩ = some (.int .i64 x.line) := xa; have x1 : w2.cell? ⟨ib, off + 1, none⟩ = some (.int .i64 x.col) := xb; have x2 : w2.cell? ⟨ib, off + 2, none⟩ = some x.has.v := xc; have n1 : ¬ ib = w.heap.size := (by omega); have n2 : ¬ w.heap.size = ib := (by omega); clear hx0 xa xb xc; have HCS2 := Lib.hid hcs2; have HKW2 := Lib.hid hkw2; have Hib := Lib.hid (show w.heap.size ≤ ib from by omega); clear hb2 hr2 hk2 hlc hc2 hcs2 hkw2 hib) | (go_at_call 32; have _t2 := Z5.out; refine (ended_calls y _).mono ?_; rw [HYS.out]; rintro e w6 ⟨rfl, hk6⟩; obtain ⟨v0, v1, v2⟩ := Z5.out _ hk6; have HCS6 := Lib.hid v2; have HKW6 := Lib.hid (HKW4.out.trans hk6); have HCSN := Lib.hid (HCS4.out.keep0 hk6); clear hk6 v2) | (go_at_call 32; have _t1 := HCS2.out; refine (ended_calls x _).mono ?_; rw [Hx.out]; rintro e w4 ⟨rfl, hk4⟩; have HCS4 := Lib.hid (HCS2.out.keep0 hk4); have HKW4 := Lib.hid (HKW2.out.trans hk4); obtain ⟨off3, c3, y3, z0, hy3, z1, z1b, z2, z3, z4, z5⟩ := HCS4.out.last (by rw [Ha.out]; simp); obtain rfl := (Option.some.inj (hy3.symm.trans HY.out)).symm; have Z5 := Lib.hid z5; clear z5 hy3; clear hk4 HCS2 HKW2))
              go_ret
              refine ⟨w.heap.size, ib, rfl, Nat.le_refl _, Hib.out, ?_, HKW6.out⟩
              rw [Hcur.out, E4.out]
              exact HCSN.out
  · have b1 : ((wordRead s).2.2.2 != 0) = true := by simpa using hbad
    have hcur : overCur s = ⟨[], (wordRead s).2.2.2, (wordRead s).2.1, (wordRead s).2.2.1⟩ := by unfold overCur; rw [if_neg hbad]
    have Hcur := Lib.hid hcur
    clear hbad hcur
    go_enter Tryd.func9, Tryd.ntmps9
    go_wp2_with (first | (go_at_call 8; refine Hread.out.mono ?_; rintro e w1 ⟨wA, wc, rfl, ho, hk⟩; have hb1 : w1.heap[w.heap.size]? = some (CurBlk none 0 ⟨[], 0, 0, 0⟩) := hk.heap (blk_new w _) (by simp); have Ho := Lib.hid ho; have Hk := Lib.hid (HA0.out.trans hk); have Hb1 := Lib.hid hb1; have c1 : w1.cell? ⟨w.heap.size, 1, none⟩ = some (.int .i64 0) := (blk_cell hb1 1).trans rfl; have c2 : w1.cell? ⟨w.heap.size, 2, none⟩ = some (.int .i64 0) := (blk_cell hb1 2).trans rfl; have c3 : w1.cell? ⟨w.heap.size, 3, none⟩ = some (.int .i64 0) := (blk_cell hb1 3).trans rfl; have f1 := blk_free hb1 1; have f2 := blk_free hb1 2; have f3 := blk_free hb1 3; clear ho hk hb1))
    go_ret
    refine ⟨w.heap.size, w.heap.size + 1, rfl, Nat.le_refl _, by omega, ?_, ?_⟩
    · rw [Hcur.out]
      refine ⟨none, 0, ?_, Nat.le_refl _, by omega, fun hn => absurd rfl hn, by omega⟩
      exact blk_set (blk_set (blk_set Hb1.out 1 _) 2 _) 3 _
    · exact (((Hk.out).setCell (p := ⟨w.heap.size, 1, none⟩) (Or.inr (Nat.le_refl _)) _).setCell (p := ⟨w.heap.size, 2, none⟩) (Or.inr (Nat.le_refl _)) _).setCell (p := ⟨w.heap.size, 3, none⟩) (Or.inr (Nat.le_refl _)) _

end Go.Proofs.YtoibcaoaljglbaaDoor
