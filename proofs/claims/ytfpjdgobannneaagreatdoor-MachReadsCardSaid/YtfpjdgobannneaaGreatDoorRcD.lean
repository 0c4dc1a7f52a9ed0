
/-
  The document's cursor (intarsiaref02.Cursor): how it lies in memory (RC), and the contracts of More, next, Ends, Peek, Err.
-/
import Derived.Test.YtfpjdgobannneaaGreatDoorLineG
import Derived.Test.YtfpjdgobannneaaGreatDoorLawB
import Derived.Test.YtfpjdgobannneaaGreatDoorCurB
import Derived.Deep.Cut
import Derived.Test.YtfpjdgobannneaaGreatDoorRefF
namespace Go.Proofs.YtfpjdgobannneaaGreatDoor
open Go Go.RowKit
set_option linter.unusedSimpArgs false

/-- words in block g -/
def WIn (w : World) (g : Nat) (A : Option Addr) (ws : List Wd) : Prop := ws ≠ [] → ∃ off, A = some ⟨g, off, none⟩ ∧ ∀ j x, ws[j]? = some x →
  w.cell? ⟨g, off + j * 5, none⟩ = some (.int .i64 x.kind) ∧ w.cell? ⟨g, off + j * 5 + 1, none⟩ = some (.string x.text) ∧ w.cell? ⟨g, off + j * 5 + 2, none⟩ = some (.int .i64 x.n) ∧
  w.cell? ⟨g, off + j * 5 + 3, none⟩ = some (.int .i64 x.line) ∧ w.cell? ⟨g, off + j * 5 + 4, none⟩ = some (.int .i64 x.col)

/-- the document's cursor lies at block b, its words in block g -/
def RC (w : World) (b g : Nat) (ws : List Wd) (e l c : Int) : Prop :=
  ∃ A cap, w.heap[b]? = some (.cells #[.slice A ws.length cap, .int .i64 e, .int .i64 l, .int .i64 c] 121 (0, 0)) ∧ ws.length ≤ cap ∧ cap ≤ 9223372036854775807 ∧ WIn w g A ws ∧ g ≠ b

theorem WIn.keeps {S : Nat → Prop} {w w' : World} {g : Nat} {A : Option Addr} {ws : List Wd} (h : WIn w g A ws) (hk : Keeps S w w') (hs : ¬ S g) : WIn w' g A ws := by
  intro hne
  obtain ⟨off, hA, hc⟩ := h hne
  refine ⟨off, hA, fun j x hj => ?_⟩
  obtain ⟨a0, a1, a2, a3, a4⟩ := hc j x hj
  exact ⟨hk.cell' a0 hs, hk.cell' a1 hs, hk.cell' a2 hs, hk.cell' a3 hs, hk.cell' a4 hs⟩

theorem RC.keeps {S : Nat → Prop} {w w' : World} {b g : Nat} {ws : List Wd} {e l c : Int} (h : RC w b g ws e l c) (hk : Keeps S w w') (hb : ¬ S b) (hg : ¬ S g) : RC w' b g ws e l c := by
  obtain ⟨A, cap, h1, h2, h3, h4, h5⟩ := h
  exact ⟨A, cap, hk.heap h1 hb, h2, h3, h4.keeps hk hg, h5⟩

theorem RC.keep0 {w w' : World} {b g : Nat} {ws : List Wd} {e l c : Int} (h : RC w b g ws e l c) (hk : Keeps (fun _ => False) w w') : RC w' b g ws e l c := h.keeps hk (by simp) (by simp)

theorem RC.lt {w : World} {b g : Nat} {ws : List Wd} {e l c : Int} (h : RC w b g ws e l c) : b < w.heap.size := by
  obtain ⟨A, cap, h1, _⟩ := h
  exact lt_of_heap h1

/-- the same as a cursor -/
def rcur (ws : List Wd) (e l c : Int) : Cur := ⟨ws.map Wd.item, e, l, c⟩

/-- what the words of a text are -/
def KindsOk (ws : List Wd) : Prop := ∀ x ∈ ws, x.kind = 1 ∨ x.kind = 2 ∨ x.kind = 3 ∨ x.kind = 4

def rnext (ws : List Wd) (e k : Int) (s : ByteArray) : Bool := e == 0 && match ws with
  | [] => false
  | x :: _ => x.kind == k && x.text == s

theorem bytes_tl (a b : ByteArray) : (a.toList == b.toList) = (a == b) := by
  rw [bytes_beq, ByteArray.toList_eq, ByteArray.toList_eq]
  by_cases h : a = b
  · subst h; simp
  · have : ¬ a.data.toList = b.data.toList := fun e => h (by
      obtain ⟨a⟩ := a
      obtain ⟨b⟩ := b
      congr 1
      exact Array.toList_inj.1 e)
    rw [show decide (a = b) = false by simp [h]]
    exact beq_eq_false_iff_ne.2 this

section
set_option maxRecDepth 100000
set_option maxHeartbeats 1000000
variable {w : World} {b g : Nat} {ws : List Wd} {e l c : Int}

theorem RC.nilc (h : RC w b g [] e l c) : ∃ A cap, w.cell? ⟨b, 0, none⟩ = some (.slice A 0 cap) ∧ w.cell? ⟨b, 1, none⟩ = some (.int .i64 e) ∧ w.cell? ⟨b, 2, none⟩ = some (.int .i64 l) ∧ w.cell? ⟨b, 3, none⟩ = some (.int .i64 c) := by
  obtain ⟨A, cap, h1, _⟩ := h
  exact ⟨A, cap, (blk_cell h1 0).trans rfl, (blk_cell h1 1).trans rfl, (blk_cell h1 2).trans rfl, (blk_cell h1 3).trans rfl⟩

theorem RC.anyc (h : RC w b g ws e l c) : ∃ A cap, w.cell? ⟨b, 0, none⟩ = some (.slice A ws.length cap) ∧ w.cell? ⟨b, 1, none⟩ = some (.int .i64 e) ∧ w.cell? ⟨b, 2, none⟩ = some (.int .i64 l) ∧ w.cell? ⟨b, 3, none⟩ = some (.int .i64 c) := by
  obtain ⟨A, cap, h1, _⟩ := h
  exact ⟨A, cap, (blk_cell h1 0).trans rfl, (blk_cell h1 1).trans rfl, (blk_cell h1 2).trans rfl, (blk_cell h1 3).trans rfl⟩

theorem RC.consc {x : Wd} {r : List Wd} (h : RC w b g (x :: r) e l c) : ∃ off cap, w.cell? ⟨b, 0, none⟩ = some (.slice (some ⟨g, off, none⟩) (r.length + 1) cap) ∧ w.cell? ⟨b, 1, none⟩ = some (.int .i64 e) ∧ w.cell? ⟨b, 2, none⟩ = some (.int .i64 l) ∧ w.cell? ⟨b, 3, none⟩ = some (.int .i64 c) ∧
    w.cell? ⟨g, off, none⟩ = some (.int .i64 x.kind) ∧ w.cell? ⟨g, off + 1, none⟩ = some (.string x.text) ∧ w.cell? ⟨g, off + 2, none⟩ = some (.int .i64 x.n) ∧ w.cell? ⟨g, off + 3, none⟩ = some (.int .i64 x.line) ∧ w.cell? ⟨g, off + 4, none⟩ = some (.int .i64 x.col) ∧ r.length + 1 ≤ 9223372036854775807 := by
  obtain ⟨A, cap, h1, h2, h3, h4, _⟩ := h
  obtain ⟨off, rfl, hc⟩ := h4 (by simp)
  obtain ⟨a0, a1, a2, a3, a4⟩ := hc 0 x rfl
  exact ⟨off, cap, (blk_cell h1 0).trans rfl, (blk_cell h1 1).trans rfl, (blk_cell h1 2).trans rfl, (blk_cell h1 3).trans rfl, a0, a1, a2, a3, a4, by simp only [List.length_cons] at h2; omega⟩

theorem rmore_calls (h : RC w b g ws e l c) :
    Calls Tryz.prog 63 #[.pointer (some ⟨b, 0, none⟩)] w fun e' w' => e' = .returned (.bool (rcur ws e l c).more) ∧ w = w' := by
  by_cases he : e = 0
  · subst he
    cases ws with
    | nil =>
      obtain ⟨A, cap, c0, c1, _, _⟩ := h.nilc
      clear h
      go_enter Tryz.func63, Tryz.ntmps63
      go_wp2
      go_ret
      exact ⟨rfl, rfl⟩
    | cons x r =>
      obtain ⟨off, cap, c0, c1, _, _, _, _, _, _, _, hr⟩ := h.consc
      have hpos2 : (0 : Int) < ((r.length + 1 : Nat) : Int) := by omega
      clear h
      go_enter Tryz.func63, Tryz.ntmps63
      go_wp2
      go_ret
      exact ⟨rfl, rfl⟩
  · obtain ⟨A, cap, c0, c1, _, _⟩ := h.anyc
    have hb : (e == 0) = false := by simpa using he
    have e1 : (rcur ws e l c).more = false := by unfold Cur.more rcur; simp [he]
    rw [e1]
    clear h he e1
    go_enter Tryz.func63, Tryz.ntmps63
    go_wp2
    go_ret
    exact ⟨rfl, rfl⟩

theorem rnext_calls (h : RC w b g ws e l c) (k : Int) (s : ByteArray) :
    Calls Tryz.prog 103 #[.pointer (some ⟨b, 0, none⟩), .int .i64 k, .string s] w fun e' w' => e' = .returned (.bool (rnext ws e k s)) ∧ w = w' := by
  have Hm := Lib.hid (rmore_calls h)
  by_cases hm : (rcur ws e l c).more = true
  · cases ws with
    | nil => unfold Cur.more rcur at hm; simp at hm
    | cons x r =>
      have he : e = 0 := by unfold Cur.more rcur at hm; simpa using hm
      subst he
      rw [hm] at Hm
      obtain ⟨off, cap, c0, c1, _, _, a0, a1, _, _, _, hr⟩ := h.consc
      have hpos2 : (0 : Int) < ((r.length + 1 : Nat) : Int) := by omega
      by_cases hk : x.kind = k
      · have bk : (x.kind == k) = true := by simpa using hk
        have e2 : rnext (x :: r) 0 k s = (x.text == s) := by unfold rnext; simp [bk]
        rw [e2]
        clear h hk hm e2
        go_enter Tryz.func103, Tryz.ntmps103
        go_wp2_with (first | (go_at_call 63; refine Hm.out.mono ?_; rintro e w' ⟨rfl, rfl⟩))
        go_ret
        exact ⟨by show Ending.returned (.bool (x.text.toList == s.toList)) = _; rw [bytes_tl], rfl⟩
      · have bk : (x.kind == k) = false := by simpa using hk
        have e2 : rnext (x :: r) 0 k s = false := by unfold rnext; simp [bk]
        rw [e2]
        clear h hk hm e2
        go_enter Tryz.func103, Tryz.ntmps103
        go_wp2_with (first | (go_at_call 63; refine Hm.out.mono ?_; rintro e w' ⟨rfl, rfl⟩))
        go_ret
        exact ⟨rfl, rfl⟩
  · have hmf : (rcur ws e l c).more = false := by simpa using hm
    rw [hmf] at Hm
    have e2 : rnext ws e k s = false := by
      unfold Cur.more rcur at hmf
      unfold rnext
      cases ws with
      | nil => simp
      | cons x r =>
        have : (e == 0) = false := by simpa using hmf
        rw [this]
        rfl
    rw [e2]
    clear h hm hmf e2
    go_enter Tryz.func103, Tryz.ntmps103
    go_wp2_with (first | (go_at_call 63; refine Hm.out.mono ?_; rintro e w' ⟨rfl, rfl⟩))
    go_ret
    exact ⟨rfl, rfl⟩

theorem ritem_stop {x : Wd} (hk : x.kind = 1 ∨ x.kind = 2 ∨ x.kind = 3 ∨ x.kind = 4) : x.item.has.eqb .stop = (x.kind == 4) := by
  obtain ⟨kind, text, n, line, col⟩ := x
  simp only at hk
  rcases hk with rfl | rfl | rfl | rfl <;> rfl

theorem ritem_name {x : Wd} (hk : x.kind = 1 ∨ x.kind = 2 ∨ x.kind = 3 ∨ x.kind = 4) : x.item.has.asName = (if x.kind = 1 then x.text else ⟨#[]⟩, x.kind == 1) := by
  obtain ⟨kind, text, n, line, col⟩ := x
  simp only at hk
  rcases hk with rfl | rfl | rfl | rfl <;> rfl

theorem ritem_num {x : Wd} (hk : x.kind = 1 ∨ x.kind = 2 ∨ x.kind = 3 ∨ x.kind = 4) : x.item.has.asNum = (if x.kind = 2 then x.n else 0, x.kind == 2) := by
  obtain ⟨kind, text, n, line, col⟩ := x
  simp only at hk
  rcases hk with rfl | rfl | rfl | rfl <;> rfl

theorem ritem_isName {x : Wd} (hk : x.kind = 1 ∨ x.kind = 2 ∨ x.kind = 3 ∨ x.kind = 4) (s : ByteArray) : x.item.has.eqb (.name s) = (x.kind == 1 && x.text == s) := by
  obtain ⟨kind, text, n, line, col⟩ := x
  simp only at hk
  rcases hk with rfl | rfl | rfl | rfl <;> rfl

theorem ritem_isMark {x : Wd} (hk : x.kind = 1 ∨ x.kind = 2 ∨ x.kind = 3 ∨ x.kind = 4) (s : ByteArray) : x.item.has.eqb (.mark s) = (x.kind == 3 && x.text == s) := by
  obtain ⟨kind, text, n, line, col⟩ := x
  simp only at hk
  rcases hk with rfl | rfl | rfl | rfl <;> rfl

theorem rnext_name (hk : KindsOk ws) (s : ByteArray) : rnext ws e 1 s = (rcur ws e l c).is (.name s) := by
  unfold rnext Cur.is rcur
  cases ws with
  | nil => rfl
  | cons x r =>
    show (e == 0 && (x.kind == 1 && x.text == s)) = (e == 0 && x.item.has.eqb (.name s))
    rw [ritem_isName (hk x (by simp))]

theorem rnext_mark (hk : KindsOk ws) (s : ByteArray) : rnext ws e 3 s = (rcur ws e l c).is (.mark s) := by
  unfold rnext Cur.is rcur
  cases ws with
  | nil => rfl
  | cons x r =>
    show (e == 0 && (x.kind == 3 && x.text == s)) = (e == 0 && x.item.has.eqb (.mark s))
    rw [ritem_isMark (hk x (by simp))]

theorem rmore_cons {x : Wd} {r : List Wd} : (rcur (x :: r) 0 l c).more = true := rfl

theorem rmore_false (h : (rcur ws e l c).more = false) : e ≠ 0 ∨ ws = [] := by
  unfold Cur.more rcur at h
  cases ws with
  | nil => exact Or.inr rfl
  | cons x r => exact Or.inl (by simpa using h)

theorem rerr_calls (h : RC w b g ws e l c) :
    Calls Tryz.prog 36 #[.pointer (some ⟨b, 0, none⟩)] w fun e' w' => e' = .returned (.tuple #[.int .i64 (rcur ws e l c).err.1, .int .i64 (rcur ws e l c).err.2.1, .int .i64 (rcur ws e l c).err.2.2]) ∧ Keeps (fun _ => False) w w' := by
  by_cases he : e = 0
  · subst he
    cases ws with
    | nil =>
      obtain ⟨A, cap, c0, c1, _, _⟩ := h.nilc
      clear h
      go_enter Tryz.func36, Tryz.ntmps36
      go_wp2
      go_ret3
      exact ⟨rfl, Keeps.refl _ _⟩
    | cons x r =>
      obtain ⟨off, cap, c0, c1, _, _, _, _, _, a3, a4, hr⟩ := h.consc
      have hpos2 : (0 : Int) < ((r.length + 1 : Nat) : Int) := by omega
      clear h
      go_enter Tryz.func36, Tryz.ntmps36
      go_wp2
      go_quiet (fail)
      go_wp2
      go_ret3
      exact ⟨rfl, (Keeps.refl _ _).drewN _⟩
  · obtain ⟨A, cap, c0, c1, c2, c3⟩ := h.anyc
    have hb : (e == 0) = false := by simpa using he
    have hb2 : (e != 0) = true := by simpa using he
    have e1 : (rcur ws e l c).err = (l, c, e) := by unfold Cur.err rcur; rw [if_neg he]
    rw [e1]
    clear h he e1
    go_enter Tryz.func36, Tryz.ntmps36
    go_wp2
    go_quiet (fail)
    go_wp2
    go_ret3
    exact ⟨rfl, (Keeps.refl _ _).drewN _⟩

end
end Go.Proofs.YtfpjdgobannneaaGreatDoor

/-
  The document's cursor: the contracts of over, Key, Is, Fail, Name, Num, Mark, End.
-/
namespace Go.Proofs.YtfpjdgobannneaaGreatDoor
open Go Go.RowKit
set_option linter.unusedSimpArgs false

/-- the document's cursor, as a cursor -/
def RCur (w : World) (b g : Nat) (st : Cur) : Prop := ∃ ws e l c, st = rcur ws e l c ∧ KindsOk ws ∧ (e = 0 → l = 0 ∧ c = 0) ∧ RC w b g ws e l c

def RCK (w w' : World) (b g : Nat) (st : Cur) : Prop := RCur w' b g st ∧ Keeps (fun k => k = b) w w'

theorem RCur.keeps {S : Nat → Prop} {w w' : World} {b g : Nat} {st : Cur} (h : RCur w b g st) (hk : Keeps S w w') (hb : ¬ S b) (hg : ¬ S g) : RCur w' b g st := by
  obtain ⟨ws, e, l, c, h1, h2, h3, h4⟩ := h
  exact ⟨ws, e, l, c, h1, h2, h3, h4.keeps hk hb hg⟩

theorem RCur.keep0 {w w' : World} {b g : Nat} {st : Cur} (h : RCur w b g st) (hk : Keeps (fun _ => False) w w') : RCur w' b g st := h.keeps hk (by simp) (by simp)

theorem RCur.lt {w : World} {b g : Nat} {st : Cur} (h : RCur w b g st) : b < w.heap.size := by
  obtain ⟨ws, e, l, c, h1, h2, h3, h4⟩ := h
  exact h4.lt

theorem KindsOk.tail {x : Wd} {r : List Wd} (h : KindsOk (x :: r)) : KindsOk r := fun y hy => h y (by simp [hy])

section
set_option maxRecDepth 100000
set_option maxHeartbeats 1000000
variable {w : World} {b g : Nat} {ws : List Wd} {e l c : Int} {st : Cur}

/-- what a walk over the next word wants -/
theorem RC.cut {x : Wd} {r : List Wd} (h : RC w b g (x :: r) e l c) : ∃ off cap, w.cell? ⟨b, 0, none⟩ = some (.slice (some ⟨g, off, none⟩) (r.length + 1) cap) ∧ w.frozen? ⟨b, 0, none⟩ = false ∧ r.length + 1 ≤ cap ∧ cap ≤ 9223372036854775807 ∧
    ((cap = 1 ∧ r = [] ∧ RC (w.setCell ⟨b, 0, none⟩ (.slice (some ⟨g, off, none⟩) 0 0)) b g r e l c) ∨ (1 < cap ∧ RC (w.setCell ⟨b, 0, none⟩ (.slice (some ⟨g, off + 5, none⟩) r.length (cap - 1))) b g r e l c)) := by
  obtain ⟨A, cap, hb, hl, hc, hr, hg⟩ := h
  obtain ⟨off, rfl, hx⟩ := hr (by simp)
  have f0 := blk_free hb 0
  simp only [List.length_cons] at hl
  refine ⟨off, cap, (blk_cell hb 0).trans rfl, f0, hl, hc, ?_⟩
  by_cases hc1 : cap = 1
  · subst hc1
    have hr0 : r = [] := by
      cases r with
      | nil => rfl
      | cons y t => simp at hl
    subst hr0
    exact Or.inl ⟨rfl, rfl, some ⟨g, off, none⟩, 0, blk_set hb 0 _, Nat.le_refl _, by omega, fun hn => absurd rfl hn, hg⟩
  · refine Or.inr ⟨by omega, some ⟨g, off + 5, none⟩, cap - 1, blk_set hb 0 _, by omega, by omega, fun hn => ⟨off + 5, rfl, fun j y hj => ?_⟩, hg⟩
    obtain ⟨a0, a1, a2, a3, a4⟩ := hx (j + 1) y hj
    have hk : Keeps (fun k => k = b) w (w.setCell ⟨b, 0, none⟩ (.slice (some ⟨g, off + 5, none⟩) r.length (cap - 1))) := keeps1 _ _ _ _
    rw [show off + 5 + j * 5 = off + (j + 1) * 5 by omega]
    exact ⟨hk.cell' a0 hg, hk.cell' a1 hg, hk.cell' a2 hg, hk.cell' a3 hg, hk.cell' a4 hg⟩

theorem rover_f (_h : RC w b g ws e l c) : Calls Tryz.prog 102 #[.pointer (some ⟨b, 0, none⟩), .bool false] w fun e' w' => e' = .returned (.bool false) ∧ w = w' := by
  clear _h
  go_enter Tryz.func102, Tryz.ntmps102
  go_wp2
  go_ret
  exact ⟨rfl, rfl⟩

theorem rover_t {x : Wd} {r : List Wd} (h : RC w b g (x :: r) e l c) : Calls Tryz.prog 102 #[.pointer (some ⟨b, 0, none⟩), .bool true] w fun e' w' => e' = .returned (.bool true) ∧ RC w' b g r e l c ∧ Keeps (fun k => k = b) w w' := by
  obtain ⟨off, cap, c0, f0, h1, h2, h3⟩ := h.cut
  clear h
  rcases h3 with ⟨rfl, rfl, h3⟩ | ⟨hc, h3⟩
  · have Fin := Lib.hid (And.intro h3 (keeps1 w b 0 (.slice (some ⟨g, off, none⟩) 0 0)))
    clear h3
    go_enter Tryz.func102, Tryz.ntmps102
    go_wp2
    go_ret
    exact ⟨rfl, Fin.out.1, Fin.out.2⟩
  · have Fin := Lib.hid (And.intro h3 (keeps1 w b 0 (.slice (some ⟨g, off + 5, none⟩) r.length (cap - 1))))
    clear h3
    go_enter Tryz.func102, Tryz.ntmps102
    go_wp2
    go_ret
    exact ⟨rfl, Fin.out.1, Fin.out.2⟩

theorem rcur_over {x : Wd} {r : List Wd} : rcur r e l c = (rcur (x :: r) e l c).over := rfl

theorem rkey_calls (h : RCur w b g st) (s : ByteArray) : Calls Tryz.prog 61 #[.pointer (some ⟨b, 0, none⟩), .string s] w fun e' w' => e' = .returned (.bool (st.is (.name s))) ∧ RCK w w' b g (st.isTo (.name s)) := by
  obtain ⟨ws, e, l, c, rfl, hk, hz, h⟩ := h
  have Hn := Lib.hid (rnext_calls h 1 s)
  rw [rnext_name (l := l) (c := c) hk s] at Hn
  cases hi : (rcur ws e l c).is (.name s) with
  | true =>
    rw [hi] at Hn
    cases ws with
    | nil => unfold Cur.is rcur at hi; simp at hi
    | cons x r =>
      have Ho := Lib.hid (rover_t h)
      have Fin := Lib.hid (fun w' (q : RC w' b g r e l c) (k : Keeps (fun k => k = b) w w') => show RCK w w' b g ((rcur (x :: r) e l c).isTo (.name s)) from ⟨⟨r, e, l, c, by unfold Cur.isTo; rw [if_pos hi]; rfl, hk.tail, hz, q⟩, k⟩)
      clear h hk hz hi
      go_enter Tryz.func61, Tryz.ntmps61
      go_wp2_with (first | (go_at_call 103; refine Hn.out.mono ?_; rintro e w' ⟨rfl, rfl⟩) | (go_at_call 102; refine Ho.out.mono ?_; rintro e' w1 ⟨rfl, q1, k1⟩; have F := Lib.hid (Fin.out w1 q1 k1); clear q1 k1))
      go_ret
      exact ⟨rfl, F.out⟩
  | false =>
    rw [hi] at Hn
    have Ho := Lib.hid (rover_f h)
    have Fin := Lib.hid (show RCK w w b g ((rcur ws e l c).isTo (.name s)) from ⟨⟨ws, e, l, c, by unfold Cur.isTo; rw [hi]; rfl, hk, hz, h⟩, Keeps.refl _ _⟩)
    clear h hk hz hi
    go_enter Tryz.func61, Tryz.ntmps61
    go_wp2_with (first | (go_at_call 103; refine Hn.out.mono ?_; rintro e w' ⟨rfl, rfl⟩) | (go_at_call 102; refine Ho.out.mono ?_; rintro e w' ⟨rfl, rfl⟩))
    go_ret
    exact ⟨rfl, Fin.out⟩

theorem rfail_calls (h : RCur w b g st) (x : Int) : Calls Tryz.prog 62 #[.pointer (some ⟨b, 0, none⟩), .int .i64 x] w fun e' w' => e' = .returned (.tuple #[]) ∧ RCK w w' b g (st.fail x) := by
  obtain ⟨ws, e, l, c, rfl, hk, hz, h⟩ := h
  by_cases he : e = 0
  · subst he
    obtain ⟨rfl, rfl⟩ := hz rfl
    by_cases hx : x = 0
    · subst hx
      have Fin := Lib.hid (show RCK w w b g ((rcur ws 0 0 0).fail 0) from ⟨⟨ws, 0, 0, 0, fail_zero _, hk, hz, h⟩, Keeps.refl _ _⟩)
      obtain ⟨A, cap, c0, c1, c2, c3⟩ := h.anyc
      clear h hk hz
      go_enter Tryz.func62, Tryz.ntmps62
      go_wp2
      refine bodyPost_ret (results_none rfl _ _ _) rfl ?_
      exact ⟨rfl, Fin.out⟩
    · have hxb : (x == 0) = false := by simpa using hx
      cases ws with
      | nil =>
        obtain ⟨A, cap, hb, hl, hc, hr, hg⟩ := h
        have c0 : w.cell? ⟨b, 0, none⟩ = some (.slice A 0 cap) := (blk_cell hb 0).trans rfl
        have c1 : w.cell? ⟨b, 1, none⟩ = some (.int .i64 0) := (blk_cell hb 1).trans rfl
        have f1 := blk_free hb 1
        have Fin := Lib.hid (show RCK w (w.setCell ⟨b, 1, none⟩ (.int .i64 x)) b g ((rcur [] 0 0 0).fail x) from ⟨⟨[], x, 0, 0, by unfold Cur.fail; rw [if_pos ⟨rfl, hx⟩]; rfl, hk, fun q => absurd q hx, A, cap, blk_set hb 1 _, hl, hc, fun q => absurd rfl q, hg⟩, keeps1 _ _ _ _⟩)
        clear hb hl hc hr hg hk hz hx
        go_enter Tryz.func62, Tryz.ntmps62
        go_wp2
        go_end0
        exact ⟨rfl, Fin.out⟩
      | cons y r =>
        obtain ⟨A, cap, hb, hl, hc, hr, hg⟩ := h
        have hr0 := hr
        obtain ⟨off, rfl, hcs⟩ := hr (by simp)
        obtain ⟨_, _, _, a3, a4⟩ := hcs 0 y rfl
        have c0 : w.cell? ⟨b, 0, none⟩ = some (.slice (some ⟨g, off, none⟩) (r.length + 1) cap) := (blk_cell hb 0).trans rfl
        have c1 : w.cell? ⟨b, 1, none⟩ = some (.int .i64 0) := (blk_cell hb 1).trans rfl
        have c2 : w.cell? ⟨b, 2, none⟩ = some (.int .i64 0) := (blk_cell hb 2).trans rfl
        have c3 : w.cell? ⟨b, 3, none⟩ = some (.int .i64 0) := (blk_cell hb 3).trans rfl
        have f1 := blk_free hb 1
        have f2 := blk_free hb 2
        have f3 := blk_free hb 3
        have hlt := lt_of_heap hb
        have hpos2 : (0 : Int) < ((r.length + 1 : Nat) : Int) := by omega
        have hgb : b ≠ g := fun q => hg q.symm
        have Fin := Lib.hid (show RCK w (((w.setCell ⟨b, 1, none⟩ (.int .i64 x)).setCell ⟨b, 2, none⟩ (.int .i64 y.line)).setCell ⟨b, 3, none⟩ (.int .i64 y.col)) b g ((rcur (y :: r) 0 0 0).fail x) from
          ⟨⟨y :: r, x, y.line, y.col, by unfold Cur.fail; rw [if_pos ⟨rfl, hx⟩]; rfl, hk, fun q => absurd q hx, some ⟨g, off, none⟩, cap, blk_set (blk_set (blk_set hb 1 _) 2 _) 3 _, hl, hc, hr0.keeps (((keeps1 w b 1 (.int .i64 x)).set1 2 (.int .i64 y.line)).set1 3 (.int .i64 y.col)) hg, hg⟩, ((keeps1 w b 1 (.int .i64 x)).set1 2 (.int .i64 y.line)).set1 3 (.int .i64 y.col)⟩)
        have hb1 := blk_set hb 1 (.int .i64 x)
        have hb2 := blk_set hb1 2 (.int .i64 y.line)
        have d0 : (w.setCell ⟨b, 1, none⟩ (.int .i64 x)).cell? ⟨b, 0, none⟩ = some (.slice (some ⟨g, off, none⟩) (r.length + 1) cap) := (blk_cell hb1 0).trans rfl
        have d1 : ((w.setCell ⟨b, 1, none⟩ (.int .i64 x)).setCell ⟨b, 2, none⟩ (.int .i64 y.line)).cell? ⟨b, 0, none⟩ = some (.slice (some ⟨g, off, none⟩) (r.length + 1) cap) := (blk_cell hb2 0).trans rfl
        have d3 : ((w.setCell ⟨b, 1, none⟩ (.int .i64 x)).setCell ⟨b, 2, none⟩ (.int .i64 y.line)).cell? ⟨g, off + 4, none⟩ = some (.int .i64 y.col) := ((keeps1 w b 1 (.int .i64 x)).set1 2 (.int .i64 y.line)).cell' (by simpa using a4) hg
        have d2 : (w.setCell ⟨b, 1, none⟩ (.int .i64 x)).cell? ⟨b, 2, none⟩ = some (.int .i64 0) := (blk_cell hb1 2).trans rfl
        have d4 : ((w.setCell ⟨b, 1, none⟩ (.int .i64 x)).setCell ⟨b, 2, none⟩ (.int .i64 y.line)).cell? ⟨b, 3, none⟩ = some (.int .i64 0) := (blk_cell hb2 3).trans rfl
        have f4 : ((w.setCell ⟨b, 1, none⟩ (.int .i64 x)).setCell ⟨b, 2, none⟩ (.int .i64 y.line)).frozen? ⟨b, 3, none⟩ = false := blk_free hb2 3
        have f5 : (w.setCell ⟨b, 1, none⟩ (.int .i64 x)).frozen? ⟨b, 2, none⟩ = false := blk_free hb1 2
        clear hb hc hr hr0 hcs hk hz hx hb1 hb2
        simp only [List.length_cons] at hl
        simp only [Nat.zero_mul, Nat.add_zero] at a3 a4
        go_enter Tryz.func62, Tryz.ntmps62
        go_wp2
        go_end0
        exact ⟨rfl, Fin.out⟩
  · have hb : (e == 0) = false := by simpa using he
    have hb2 : (e != 0) = true := by simpa using he
    have Fin := Lib.hid (show RCK w w b g ((rcur ws e l c).fail x) from ⟨⟨ws, e, l, c, broken_fail (c := rcur ws e l c) he x, hk, hz, h⟩, Keeps.refl _ _⟩)
    obtain ⟨A, cap, c0, c1, c2, c3⟩ := h.anyc
    clear h hk hz he
    go_enter Tryz.func62, Tryz.ntmps62
    go_wp2
    refine bodyPost_ret (results_none rfl _ _ _) rfl ?_
    exact ⟨rfl, Fin.out⟩

end
end Go.Proofs.YtfpjdgobannneaaGreatDoor

/-
  The document's cursor: the contracts of Name, Num, Mark, End.
-/
namespace Go.Proofs.YtfpjdgobannneaaGreatDoor
open Go Go.RowKit
set_option linter.unusedSimpArgs false

section
set_option maxRecDepth 100000
set_option maxHeartbeats 1000000
variable {w : World} {b g : Nat} {ws : List Wd} {e l c : Int} {st : Cur}

theorem rmore_cases (h : RCur w b g st) : (st.more = false ∧ RCur w b g st) ∨ ∃ x r, st = rcur (x :: r) 0 0 0 ∧ (x.kind = 1 ∨ x.kind = 2 ∨ x.kind = 3 ∨ x.kind = 4) ∧ KindsOk r ∧ RC w b g (x :: r) 0 0 0 := by
  obtain ⟨ws, e, l, c, rfl, hk, hz, h⟩ := h
  by_cases hm : (rcur ws e l c).more = true
  · cases ws with
    | nil => unfold Cur.more rcur at hm; simp at hm
    | cons x r =>
      have he : e = 0 := by unfold Cur.more rcur at hm; simpa using hm
      subst he
      obtain ⟨rfl, rfl⟩ := hz rfl
      exact Or.inr ⟨x, r, rfl, hk x (by simp), hk.tail, h⟩
  · exact Or.inl ⟨by simpa using hm, ws, e, l, c, rfl, hk, hz, h⟩

theorem rmore' (h : RCur w b g st) : Calls Tryz.prog 63 #[.pointer (some ⟨b, 0, none⟩)] w fun e' w' => e' = .returned (.bool st.more) ∧ w = w' := by
  obtain ⟨ws, e, l, c, rfl, hk, hz, h⟩ := h
  exact rmore_calls h

theorem more_false_name (h : st.more = false) : st.name = (⟨#[]⟩, st.fail 7) := by
  unfold Cur.more at h
  unfold Cur.name
  by_cases hw : st.wrong = 0
  · rw [if_pos hw]
    have : st.items = [] := by
      cases hi : st.items with
      | nil => rfl
      | cons x r => rw [hi, hw] at h; cases h
    rw [this]
  · rw [if_neg hw, broken_fail hw]

theorem more_false_num (h : st.more = false) (a d : Int) : st.num a d = (0, st.fail 7) := by
  unfold Cur.more at h
  unfold Cur.num
  by_cases hw : st.wrong = 0
  · rw [if_pos hw]
    have : st.items = [] := by
      cases hi : st.items with
      | nil => rfl
      | cons x r => rw [hi, hw] at h; cases h
    rw [this]
  · rw [if_neg hw, broken_fail hw]

theorem rnum_calls (h : RCur w b g st) (lo hi : Int) : Calls Tryz.prog 34 #[.pointer (some ⟨b, 0, none⟩), .int .i64 lo, .int .i64 hi] w fun e' w' => e' = .returned (.int .i64 (st.num lo hi).1) ∧ RCK w w' b g (st.num lo hi).2 := by
  have Hm := Lib.hid (rmore' h)
  have Hf := Lib.hid (rfail_calls h 7)
  have Hf3 := Lib.hid (rfail_calls h 3)
  rcases rmore_cases h with ⟨hm, _⟩ | ⟨x, r, rfl, hk, hkr, hr⟩
  · rw [more_false_num hm]
    rw [hm] at Hm
    clear h hm Hf3
    go_enter Tryz.func34, Tryz.ntmps34
    go_wp2_with (first | (go_at_call 63; refine Hm.out.mono ?_; rintro e w' ⟨rfl, rfl⟩) | (go_at_call 62; refine Hf.out.mono ?_; rintro e w1 ⟨rfl, h10⟩; have h1 := Lib.hid h10; clear h10))
    go_ret
    exact ⟨rfl, h1.out⟩
  · obtain ⟨off, cap, c0, c1, _, _, a0, _, a2, _, _, hrl⟩ := hr.consc
    have hpos2 : (0 : Int) < ((r.length + 1 : Nat) : Int) := by omega
    by_cases h1 : x.kind = 2
    · have bn : (x.kind != 2) = false := by simpa using h1
      by_cases hb : x.n < lo ∨ hi < x.n
      · have e2 : (rcur (x :: r) 0 0 0).num lo hi = (0, (rcur (x :: r) 0 0 0).fail 3) := by
          show (if x.item.has.asNum.2 = true then (if x.item.has.asNum.1 < lo ∨ hi < x.item.has.asNum.1 then (0, (rcur (x :: r) 0 0 0).fail 3) else _) else _) = _
          rw [ritem_num hk, if_pos (by simpa using h1)]
          simp only [if_pos h1]
          rw [if_pos hb]
        rw [e2]
        clear h hr hk hkr h1 e2 Hf
        by_cases hlo : x.n < lo
        · clear hb
          go_enter Tryz.func34, Tryz.ntmps34
          go_wp2_with (first | (go_at_call 63; refine Hm.out.mono ?_; rintro e w' ⟨rfl, rfl⟩) | (go_at_call 62; refine Hf3.out.mono ?_; rintro e w1 ⟨rfl, h1'0⟩; have h1' := Lib.hid h1'0; clear h1'0))
          go_ret
          exact ⟨rfl, h1'.out⟩
        · have hhi : hi < x.n := by omega
          clear hb
          go_enter Tryz.func34, Tryz.ntmps34
          go_wp2_with (first | (go_at_call 63; refine Hm.out.mono ?_; rintro e w' ⟨rfl, rfl⟩) | (go_at_call 62; refine Hf3.out.mono ?_; rintro e w1 ⟨rfl, h1'0⟩; have h1' := Lib.hid h1'0; clear h1'0))
          go_ret
          exact ⟨rfl, h1'.out⟩
      · have e2 : (rcur (x :: r) 0 0 0).num lo hi = (x.n, rcur r 0 0 0) := by
          show (if x.item.has.asNum.2 = true then (if x.item.has.asNum.1 < lo ∨ hi < x.item.has.asNum.1 then _ else (x.item.has.asNum.1, rcur r 0 0 0)) else _) = _
          rw [ritem_num hk, if_pos (by simpa using h1)]
          simp only [if_pos h1]
          rw [if_neg hb]
        rw [e2]
        have hlo : ¬ x.n < lo := fun q => hb (Or.inl q)
        have hhi : ¬ hi < x.n := fun q => hb (Or.inr q)
        obtain ⟨off', cap', c0', f0, q1, q2, q3⟩ := hr.cut
        have he : off' = off ∧ cap' = cap := by
          rw [c0'] at c0
          simp only [Option.some.injEq, Value.slice.injEq, Addr.mk.injEq, true_and, and_true] at c0
          exact c0
        obtain ⟨rfl, rfl⟩ := he
        have K2 := Lib.hid hkr
        clear h hr hk hkr h1 e2 c0' Hf Hf3 hb
        rcases q3 with ⟨rfl, rfl, q3⟩ | ⟨hc, q3⟩
        · have Fin := Lib.hid (show RCK w (w.setCell ⟨b, 0, none⟩ (.slice (some ⟨g, off', none⟩) 0 0)) b g (rcur [] 0 0 0) from ⟨⟨[], 0, 0, 0, rfl, K2.out, fun _ => ⟨rfl, rfl⟩, q3⟩, keeps1 w b 0 _⟩)
          clear q3
          go_enter Tryz.func34, Tryz.ntmps34
          go_wp2_with (first | (go_at_call 63; refine Hm.out.mono ?_; rintro e w' ⟨rfl, rfl⟩))
          go_ret
          exact ⟨rfl, Fin.out⟩
        · have Fin := Lib.hid (show RCK w (w.setCell ⟨b, 0, none⟩ (.slice (some ⟨g, off' + 5, none⟩) r.length (cap' - 1))) b g (rcur r 0 0 0) from ⟨⟨r, 0, 0, 0, rfl, K2.out, fun _ => ⟨rfl, rfl⟩, q3⟩, keeps1 w b 0 _⟩)
          clear q3
          go_enter Tryz.func34, Tryz.ntmps34
          go_wp2_with (first | (go_at_call 63; refine Hm.out.mono ?_; rintro e w' ⟨rfl, rfl⟩))
          go_ret
          exact ⟨rfl, Fin.out⟩
    · have bn : (x.kind != 2) = true := by simpa using h1
      have e2 : (rcur (x :: r) 0 0 0).num lo hi = (0, (rcur (x :: r) 0 0 0).fail 7) := by
        show (if x.item.has.asNum.2 = true then _ else (0, (rcur (x :: r) 0 0 0).fail 7)) = _
        rw [ritem_num hk, if_neg (by simpa using h1)]
      rw [e2]
      clear h hr hk hkr e2 Hf3
      go_enter Tryz.func34, Tryz.ntmps34
      go_wp2_with (first | (go_at_call 63; refine Hm.out.mono ?_; rintro e w' ⟨rfl, rfl⟩) | (go_at_call 62; refine Hf.out.mono ?_; rintro e w1 ⟨rfl, h1'0⟩; have h1' := Lib.hid h1'0; clear h1'0))
      go_ret
      exact ⟨rfl, h1'.out⟩

theorem RCK.trans {w0 w1 w2 : World} {b g : Nat} {st1 st2 : Cur} (h : RCK w0 w1 b g st1) (k : RCK w1 w2 b g st2) : RCK w0 w2 b g st2 := ⟨k.1, h.2.trans k.2⟩

end
end Go.Proofs.YtfpjdgobannneaaGreatDoor

/-
  The document's cursor over a text (intarsiaref02.Over): its contract.
-/
namespace Go.Proofs.YtfpjdgobannneaaGreatDoor
open Go Go.RowKit Go.Proofs.YtfpjdgobannneaaGreatDoor.Ref Go.Proofs.YtfpjdgobannneaaGreatDoorW.PrintWords Go.Proofs.YtfpjdgobannneaaGreatDoorW.PrintLast Go.Proofs.YtfpjdgobannneaaGreatDoorW.PrintMore
set_option linter.unusedSimpArgs false

/-! The plain law: ends ahead, behind and twice are left out. -/

def lastEnd (l : List Wd) : Bool := match l.getLast? with
  | some x => x.kind == 4
  | none => false

/-- a word is put, if it is no end, or is the first end behind a word -/
def putW (out : List Wd) (x : Wd) : List Wd := if x.kind ≠ 4 ∨ (out ≠ [] ∧ lastEnd out = false) then out ++ [x] else out

def dropEnd (l : List Wd) : List Wd := if lastEnd l = true then l.dropLast else l

/-- words told: a; an end that waits: p -/
structure Told (out a : List Wd) (p : Option Wd) : Prop where
  eq : out = a ++ p.toList
  last : a ≠ [] → lastEnd a = false
  stop : ∀ z, p = some z → z.kind = 4
  shut : a = [] → p = none

theorem lastEnd_snoc (l : List Wd) (x : Wd) : lastEnd (l ++ [x]) = (x.kind == 4) := by
  unfold lastEnd
  rw [List.getLast?_append]
  rfl

theorem told_drop {out a : List Wd} {p : Option Wd} (h : Told out a p) : dropEnd out = a := by
  obtain ⟨rfl, h1, h2, h3⟩ := h
  cases p with
  | none =>
    simp only [Option.toList_none, List.append_nil]
    unfold dropEnd
    by_cases ha : a = []
    · subst ha; rfl
    · rw [h1 ha]; rfl
  | some z =>
    have hz := h2 z rfl
    simp only [Option.toList_some]
    unfold dropEnd
    rw [lastEnd_snoc, if_pos (by simpa using hz)]
    simp

theorem told_go : ∀ (l : List Wd) (out a : List Wd) (p : Option Wd), (∀ x ∈ l, x.Ok) → Told out a p → (dropEnd (l.foldl putW out)).map Wd.item = a.map Wd.item ++ goIt (!a.isEmpty) (p.map Wd.item) (l.map Wd.item)
  | [], out, a, p, _, h => by
    rw [List.foldl_nil, told_drop h]
    simp [goIt]
  | x :: r, out, a, p, hk, h => by
    have hx := hk x (by simp)
    have hr : ∀ y ∈ r, y.Ok := fun y hy => hk y (by simp [hy])
    have hh := h
    obtain ⟨rfl, h1, h2, h3⟩ := h
    rw [List.foldl_cons, List.map_cons]
    by_cases h4 : x.kind = 4
    · have hst : x.item.has.isStop = true := (Wd.stop_iff hx).2 h4
      have hgo : goIt (!a.isEmpty) (p.map Wd.item) (x.item :: r.map Wd.item) = (if (!a.isEmpty) = true then goIt (!a.isEmpty) (p.map Wd.item <|> some x.item) (r.map Wd.item) else goIt (!a.isEmpty) (p.map Wd.item) (r.map Wd.item)) := by
        rw [goIt, if_pos hst]
      rw [hgo]
      by_cases ha : a = []
      · subst ha
        obtain rfl := h3 rfl
        have hp : putW ([] ++ (none : Option Wd).toList) x = [] := by
          unfold putW
          rw [if_neg]
          · rfl
          · rintro (q | ⟨q, _⟩)
            · exact q h4
            · exact q rfl
        rw [hp, told_go r [] [] none hr ⟨rfl, fun q => absurd rfl q, fun z hz => (by cases hz), fun _ => rfl⟩]
        rfl
      · have hae : (!a.isEmpty) = true := by
          cases a with
          | nil => exact absurd rfl ha
          | cons y t => rfl
        rw [if_pos hae]
        cases p with
        | none =>
          have hp : putW (a ++ (none : Option Wd).toList) x = a ++ [x] := by
            unfold putW
            simp only [Option.toList_none, List.append_nil]
            rw [if_pos (Or.inr ⟨ha, h1 ha⟩)]
          rw [hp, told_go r (a ++ [x]) a (some x) hr ⟨rfl, h1, fun z hz => (by injection hz with hz; rw [← hz]; exact h4), fun q => absurd q ha⟩]
          rfl
        | some z =>
          have hz := h2 z rfl
          have hp : putW (a ++ (some z).toList) x = a ++ (some z).toList := by
            unfold putW
            rw [if_neg]
            rintro (q | ⟨_, q⟩)
            · exact q h4
            · rw [show a ++ (some z).toList = a ++ [z] from rfl, lastEnd_snoc] at q
              simp [hz] at q
          rw [hp, told_go r _ a (some z) hr hh]
          rfl
    · have hst : x.item.has.isStop = false := by
        cases hq : x.item.has.isStop with
        | false => rfl
        | true => exact absurd ((Wd.stop_iff hx).1 hq) h4
      have hp : putW (a ++ p.toList) x = (a ++ p.toList) ++ [x] := by
        unfold putW
        rw [if_pos (Or.inl h4)]
      rw [hp, told_go r _ (a ++ p.toList ++ [x]) none hr ⟨by simp, fun _ => (by rw [lastEnd_snoc]; simpa using h4), fun z hz => (by cases hz), fun q => absurd q (by simp)⟩]
      have hgo : goIt (!a.isEmpty) (p.map Wd.item) (x.item :: r.map Wd.item) = (p.map Wd.item).toList ++ x.item :: goIt true none (r.map Wd.item) := by
        rw [goIt, if_neg (by rw [hst]; decide)]
      have hne : (!(a ++ p.toList ++ [x]).isEmpty) = true := by
        cases a <;> cases p <;> rfl
      rw [hgo, hne]
      cases p <;> simp

theorem told_over {s : ByteArray} : (dropEnd ((wordRead s).1.foldl putW [])).map Wd.item = overItems (wordRead s).1 := by
  rw [told_go _ [] [] none (wordRead_ok s) ⟨rfl, fun q => absurd rfl q, fun z hz => (by cases hz), fun _ => rfl⟩, overItems_go]
  rfl

theorem putW_mem (out : List Wd) (x y : Wd) (h : y ∈ putW out x) : y ∈ out ∨ y = x := by
  unfold putW at h
  split at h
  · rcases List.mem_append.1 h with h | h
    · exact Or.inl h
    · exact Or.inr (by simpa using h)
  · exact Or.inl h

theorem fold_mem : ∀ (l out : List Wd) (y : Wd), y ∈ l.foldl putW out → y ∈ out ∨ y ∈ l
  | [], out, y, h => Or.inl h
  | x :: r, out, y, h => by
    rw [List.foldl_cons] at h
    rcases fold_mem r _ y h with h | h
    · rcases putW_mem _ _ _ h with h | h
      · exact Or.inl h
      · exact Or.inr (by simp [h])
    · exact Or.inr (by simp [h])

theorem drop_mem (l : List Wd) (y : Wd) (h : y ∈ dropEnd (l.foldl putW [])) : y ∈ l := by
  have h2 : y ∈ l.foldl putW [] := by
    unfold dropEnd at h
    split at h
    · exact (List.dropLast_sublist _).subset h
    · exact h
  rcases fold_mem l [] y h2 with h | h
  · cases h
  · exact h

/-! The walk. -/

/-- a row of words that the document made -/
structure RowW (w : World) (base g : Nat) (A : Option Addr) (cap : Nat) (xs : List S123) : Prop where
  cap0 : xs.length ≤ cap
  cap1 : cap ≤ 9223372036854775807
  addr : xs ≠ [] → A = some ⟨g, 0, none⟩ ∧ base ≤ g ∧ g < w.heap.size
  cells : ∀ i x, xs[i]? = some x → w.cell? ⟨g, i * 5, none⟩ = some (.int .i64 x.f0) ∧ w.cell? ⟨g, i * 5 + 1, none⟩ = some (.string x.f1) ∧ w.cell? ⟨g, i * 5 + 2, none⟩ = some (.int .i64 x.f2) ∧
    w.cell? ⟨g, i * 5 + 3, none⟩ = some (.int .i64 x.f3) ∧ w.cell? ⟨g, i * 5 + 4, none⟩ = some (.int .i64 x.f4)

theorem row_of {w : World} {base : Nat} {ok : Nat → Prop} {v : Value} {xs : List S123} (h : Kd.R k123 123 w base ok v xs) : ∃ g A cap, v = .slice A xs.length cap ∧ RowW w base g A cap xs := by
  obtain ⟨A, cap, rfl, hl, hc⟩ := Kd.R_reads h
  obtain ⟨inner, ho⟩ := Kd.R_own h
  have hcap : cap ≤ 9223372036854775807 := by
    rcases ho.2 with ⟨hv, _⟩ | ⟨g, cap', cur, hv, _, _, _, hm, _⟩
    · injection hv with _ _ hv; omega
    · injection hv with _ _ hv
      subst hv
      exact hm
  by_cases hx : xs = []
  · subst hx
    exact ⟨0, A, cap, rfl, hl, hcap, fun q => absurd rfl q, fun i x hi => by simp at hi⟩
  · have hpos : 0 < xs.length := List.length_pos_iff.2 hx
    obtain ⟨ad, rfl, _⟩ := at_T123 hc 0 (by omega) (by omega)
    obtain ⟨g, rfl⟩ := Kd.R_head h
    refine ⟨g, some ⟨g, 0, none⟩, cap, rfl, hl, hcap, fun _ => ⟨rfl, ?_⟩, fun i x hi => ?_⟩
    · exact ho.lt g rfl
    · have hlt : i < xs.length := (List.getElem?_eq_some_iff.1 hi).1
      obtain ⟨ad, ha, c0, c1, c2, c3, c4⟩ := at_T123 hc (i : Int) (by omega) (by omega)
      injection ha with ha
      subst ha
      have hrd : rd_T123 xs (i : Int) = x := by
        unfold rd_T123
        rw [Int.toNat_natCast, List.getD_eq_getElem?_getD, hi]
        rfl
      rw [hrd, Int.toNat_natCast] at c0 c1 c2 c3 c4
      have e : Addr.add ⟨g, 0, none⟩ (i * 5) = ⟨g, i * 5, none⟩ := by
        unfold Addr.add
        split
        · rename_i h0; rw [h0]
        · simp
      rw [e] at c0 c1 c2 c3 c4
      exact ⟨c0, c1, c2, c3, c4⟩

theorem RowW.keeps {S : Nat → Prop} {w w' : World} {base g : Nat} {A : Option Addr} {cap : Nat} {xs : List S123} (h : RowW w base g A cap xs) (hk : Keeps S w w') (hs : xs ≠ [] → ¬ S g) : RowW w' base g A cap xs := by
  refine ⟨h.cap0, h.cap1, fun q => ?_, fun i x hi => ?_⟩
  · obtain ⟨a, b, c⟩ := h.addr q
    exact ⟨a, b, by have := hk.size; omega⟩
  · have hne : xs ≠ [] := by rintro rfl; simp at hi
    obtain ⟨a0, a1, a2, a3, a4⟩ := h.cells i x hi
    exact ⟨hk.cell' a0 (hs hne), hk.cell' a1 (hs hne), hk.cell' a2 (hs hne), hk.cell' a3 (hs hne), hk.cell' a4 (hs hne)⟩

/-- what the document's Over leaves -/
def ROverPost (s : ByteArray) (w : World) (e : Ending) (w' : World) : Prop :=
  ∃ b g, e = .returned (.pointer (some ⟨b, 0, none⟩)) ∧ w.heap.size ≤ b ∧ (g = 0 ∨ w.heap.size ≤ g) ∧ RCur w' b g (overCur s) ∧ Keeps (fun _ => False) w w'

section
set_option maxRecDepth 100000
set_option maxHeartbeats 4000000

theorem rOver_calls (s : ByteArray) (w : World) (hs : s.size ≤ 1000000) (h4 : 4 ≤ w.heap.size) : Calls Tryz.prog 32 #[.string s] w (ROverPost s w) := by
  obtain ⟨⟨xs, row, col, e⟩, ⟨n, hn⟩, heq⟩ := refRead_says s (by omega)
  have Hr := Lib.hid (intarsiaref01_Read.calls n s xs row col e w hn)
  have hw : wordRead s = (xs.map toWd, row, col, e) := heq.symm
  have Hw := Lib.hid hw
  have hxl : xs.length ≤ 3000000000 := by
    have := read_len s (by omega)
    rw [hw] at this
    simpa using this
  have H4 := Lib.hid h4
  clear hn heq h4
  by_cases he : e = 0
  · subst he
    clear hw
    go_enter Tryz.func32, Tryz.ntmps32
    go_wp2_with (first | (go_at_call 60; refine Hr.out.mono ?_; rintro e' w1 ⟨v0, rfl, hR, hB⟩; have HR := Lib.hid hR; have HB1 := Lib.hid hB; obtain ⟨gl, Al, capl, rfl, hrow⟩ := row_of hR; have HL := Lib.hid hrow; clear hR hB hrow))
    go_loopw [7, 8] (fun v7 v8 wr => ∃ (k : Nat) (out : List S123), k ≤ xs.length ∧ v8 = .int .i64 k ∧ Hid (Kd.R k123 123 wr w1.heap.size (fun _ => True) v7 out) ∧ Hid (out.map toWd = ((xs.map toWd).take k).foldl putW []) ∧ Hid (out.length ≤ k) ∧ Hid (Below w1.heap.size w1 wr)) (fun _ v8 _ => xs.length - (intOf v8).toNat)
    case atStart => exact ⟨0, [], Nat.zero_le _, rfl, Lib.hid (Kd.R_nil _ _ _ _ _), Lib.hid rfl, Lib.hid (Nat.le_refl _), Lib.hid (Below.refl _ _)⟩
    case round =>
      obtain ⟨k, out, hk, rfl, HO, HE, HLe, HB⟩ := hrel
      obtain ⟨go, Ao, capo, rfl, hro⟩ := row_of HO.out
      have HLn := Lib.hid (show (out.length + 1) * 48 ≤ 140737488355328 by have := HLe.out; omega)
      by_cases hlt : k < xs.length
      · have hxk : xs[k]? = some xs[k] := by simp [hlt]
        obtain ⟨x0, x1, x2, x3, x4⟩ := (HL.out.keeps (Keeps.of_below HB.out (fun _ => False)) (fun _ => by simp)).cells _ _ hxk
        obtain ⟨rfl, _, _⟩ := HL.out.addr (List.length_pos_iff.1 (by omega))
        have Hstep := Lib.hid (show ((xs.map toWd).take (k + 1)).foldl putW [] = putW (out.map toWd) (toWd xs[k]) from by
          rw [List.take_add_one, List.getElem?_map, hxk, List.foldl_append, ← HE.out]
          rfl)
        clear hxk
        generalize xs[k] = x at *
        obtain ⟨xk, xt, xn, xl, xc⟩ := x
        simp only at x0 x1 x2 x3 x4
        by_cases hx4 : xk = 4
        · have b4 : (xk != 4) = false := by simpa using hx4
          by_cases ho : out = []
          · have q0 : decide ((0 : Int) < (out.length : Int)) = false := by rw [ho]; rfl
            have q5 : ¬ (0 : Int) < (out.length : Int) := by rw [ho]; simp
            have Hn := Lib.hid (Hstep.out.trans (show putW (out.map toWd) (toWd ⟨xk, xt, xn, xl, xc⟩) = out.map toWd from by unfold putW; rw [if_neg (by rintro (q | ⟨q, _⟩); exact q hx4; exact q (by rw [ho]; rfl))]))
            clear hx4 hro ho
            go_wp2
            go_roundw
            case rel => exact ⟨k + 1, out, by omega, by go_num, HO, Lib.hid Hn.out.symm, Lib.hid (by have := HLe.out; omega), HB⟩
            case measure => simp [intOf]; omega
          · have hpos : 0 < out.length := List.length_pos_iff.2 ho
            obtain ⟨rfl, _, _⟩ := hro.addr ho
            have hlst : out[out.length - 1]? = some (out[out.length - 1]'(by omega)) := List.getElem?_eq_getElem _
            obtain ⟨l0, _, _, _, _⟩ := hro.cells _ _ hlst
            have hle : lastEnd (out.map toWd) = ((out[out.length - 1]'(by omega)).f0 == 4) := by
              unfold lastEnd
              rw [List.getLast?_eq_getElem?, List.length_map, List.getElem?_map, hlst]
              rfl
            clear hlst
            generalize out[out.length - 1]'(by omega) = y at *
            have q0 : decide ((0 : Int) < (out.length : Int)) = true := by simp; omega
            have q1 : IntKind.i64.wrap ((out.length : Int) - 1) = (out.length : Int) - 1 := IntWalk.i64_in _ (by have := HLe.out; omega)
            have q2 : (0 : Int) ≤ (out.length : Int) - 1 := by omega
            have q2' : (1 : Int) ≤ (out.length : Int) := by omega
            have q3 : ((out.length : Int) - 1).toNat = out.length - 1 := by omega
            have q4 : (out.length : Int) - 1 < (out.length : Int) := by omega
            have q5 : (0 : Int) < (out.length : Int) := by omega
            by_cases hy : y.f0 = 4
            · have by4 : (y.f0 != 4) = false := by simpa using hy
              have Hn := Lib.hid (Hstep.out.trans (show putW (out.map toWd) (toWd ⟨xk, xt, xn, xl, xc⟩) = out.map toWd from by unfold putW; rw [if_neg (by rintro (q | ⟨_, q⟩); exact q hx4; rw [hle] at q; simp [hy] at q)]))
              clear hx4 hro hle hy
              go_wp2
              go_roundw
              case rel => exact ⟨k + 1, out, by omega, by go_num, HO, Lib.hid Hn.out.symm, Lib.hid (by have := HLe.out; omega), HB⟩
              case measure => simp [intOf]; omega
            · have by4 : (y.f0 != 4) = true := by simpa using hy
              have Hn := Lib.hid (Hstep.out.trans (show putW (out.map toWd) (toWd ⟨xk, xt, xn, xl, xc⟩) = (out ++ [(⟨xk, xt, xn, xl, xc⟩ : S123)]).map toWd from by rw [map_push]; unfold putW; rw [if_pos (Or.inr ⟨by simpa using ho, by rw [hle]; simpa using hy⟩)]))
              clear hx4 hro hle hy
              go_wp2_with (first | ((with_reducible refine gate_builtin (b := .append) (xs := #[.tmp 50, .tmp 55]) rfl ?_); at_builtin; refine Kd.R_append k123 (w0 := w1) w1.heap.size rfl (.tmp 50) (.tmp 55) 117 123 (.agg #[(.int .i64 0), (.string ⟨#[]⟩), (.int .i64 0), (.int .i64 0), (.int .i64 0)]) 48 rfl Tryz.underlying117 info123 rfl (by decide) (by omega) (.slice (some ⟨go, 0, none⟩) out.length capo) out ⟨xk, xt, xn, xl, xc⟩ [.int .i64 xk, .string xt, .int .i64 xn, .int .i64 xl, .int .i64 xc] (fun _ => True) (fun _ => False) rfl rfl ?aP (fun _ hk => hk.elim) ?aF ?aO ?aB ?aS ?aL ?_; (case aP => exact k123_mkM _ _ _ (⟨xk, xt, xn, xl, xc⟩ : S123)); (case aB => exact HB.out); (case aF => exact (fun _ _ => trivial)); (case aO => exact HO.out); (case aS => exact HB.out.size); (case aL => exact HLn.out); intro v2 w2 ho hb hg hat; have HO2 := Lib.hid ho; have HB2 := Lib.hid hb; clear ho hb hg hat))
              go_roundw
              case rel => exact ⟨k + 1, _, by omega, by go_num, HO2, Lib.hid Hn.out.symm, Lib.hid (by rw [List.length_append]; have := HLe.out; simp; omega), HB2⟩
              case measure => simp [intOf]; omega
        · have b4 : (xk != 4) = true := by simpa using hx4
          have Hn := Lib.hid (Hstep.out.trans (show putW (out.map toWd) (toWd ⟨xk, xt, xn, xl, xc⟩) = (out ++ [(⟨xk, xt, xn, xl, xc⟩ : S123)]).map toWd from by rw [map_push]; unfold putW; rw [if_pos (show (toWd ⟨xk, xt, xn, xl, xc⟩).kind ≠ 4 ∨ _ from Or.inl hx4)]))
          clear hx4 hro
          go_wp2_with (first | ((with_reducible refine gate_builtin (b := .append) (xs := #[.tmp 50, .tmp 55]) rfl ?_); at_builtin; refine Kd.R_append k123 (w0 := w1) w1.heap.size rfl (.tmp 50) (.tmp 55) 117 123 (.agg #[(.int .i64 0), (.string ⟨#[]⟩), (.int .i64 0), (.int .i64 0), (.int .i64 0)]) 48 rfl Tryz.underlying117 info123 rfl (by decide) (by omega) (.slice Ao out.length capo) out ⟨xk, xt, xn, xl, xc⟩ [.int .i64 xk, .string xt, .int .i64 xn, .int .i64 xl, .int .i64 xc] (fun _ => True) (fun _ => False) rfl rfl ?aP (fun _ hk => hk.elim) ?aF ?aO ?aB ?aS ?aL ?_; (case aP => exact k123_mkM _ _ _ (⟨xk, xt, xn, xl, xc⟩ : S123)); (case aB => exact HB.out); (case aF => exact (fun _ _ => trivial)); (case aO => exact HO.out); (case aS => exact HB.out.size); (case aL => exact HLn.out); intro v2 w2 ho hb hg hat; have HO2 := Lib.hid ho; have HB2 := Lib.hid hb; clear ho hb hg hat))
          go_roundw
          case rel => exact ⟨k + 1, _, by omega, by go_num, HO2, Lib.hid Hn.out.symm, Lib.hid (by rw [List.length_append]; have := HLe.out; simp; omega), HB2⟩
          case measure => simp [intOf]; omega
      · have hkl : k = xs.length := by omega
        have HE2 := Lib.hid (show out.map toWd = (xs.map toWd).foldl putW [] from by
          rw [HE.out, List.take_of_length_le (by rw [List.length_map]; omega)])
        have Hcur := Lib.hid (show overCur s = rcur (dropEnd (out.map toWd)) 0 0 0 from by
          have h1 := told_over (s := s)
          have h2 : (wordRead s).1 = xs.map toWd := by rw [Hw.out]
          rw [h2, ← HE2.out] at h1
          unfold overCur
          rw [Hw.out, if_pos rfl]
          unfold rcur
          rw [h1])
        have Hok := Lib.hid (show KindsOk (dropEnd (out.map toWd)) from by
          have h1 : ∀ x ∈ xs.map toWd, x.Ok := by
            have := wordRead_ok s
            rw [Hw.out] at this
            exact this
          rw [HE2.out]
          intro x hx
          exact (h1 x (drop_mem _ _ hx)).1)
        have HKw := Lib.hid ((Keeps.of_below HB1.out (fun _ => False)).trans (Keeps.of_below HB.out _))
        have hge : w.heap.size ≤ w1.heap.size := HB1.out.size
        have hge2 : w1.heap.size ≤ wr.heap.size := HB.out.size
        clear Hr HE HLn
        by_cases ho : out = []
        · subst ho
          go_wp2
          go_ret
          exact ⟨wr.heap.size, 0, rfl, by omega, Or.inl rfl, ⟨[], 0, 0, 0, Hcur.out, Hok.out, fun _ => ⟨rfl, rfl⟩, Ao, capo, blk_new wr _, Nat.zero_le _, hro.cap1, fun q => absurd rfl q, by have := H4.out; omega⟩, HKw.out.alloc _⟩
        · have hcells := hro.cells
          have haddr := hro.addr ho
          have hc0 := hro.cap0
          have hc1 := hro.cap1
          have hpos : 0 < out.length := List.length_pos_iff.2 ho
          obtain ⟨rfl, _, _⟩ := hro.addr ho
          have hlst : out[out.length - 1]? = some (out[out.length - 1]'(by omega)) := List.getElem?_eq_getElem _
          obtain ⟨l0, _, _, _, _⟩ := hro.cells _ _ hlst
          have hle : lastEnd (out.map toWd) = ((out[out.length - 1]'(by omega)).f0 == 4) := by
            unfold lastEnd
            rw [List.getLast?_eq_getElem?, List.length_map, List.getElem?_map, hlst]
            rfl
          clear hlst
          generalize out[out.length - 1]'(by omega) = y at *
          have q0 : decide ((0 : Int) < (out.length : Int)) = true := by simp; omega
          have q1 : IntKind.i64.wrap ((out.length : Int) - 1) = (out.length : Int) - 1 := IntWalk.i64_in _ (by have := HLe.out; omega)
          have q2 : (0 : Int) ≤ (out.length : Int) - 1 := by omega
          have q2' : (1 : Int) ≤ (out.length : Int) := by omega
          have q3 : ((out.length : Int) - 1).toNat = out.length - 1 := by omega
          have q4 : (out.length : Int) - 1 < (out.length : Int) := by omega
          have q5 : (0 : Int) < (out.length : Int) := by omega
          have hylt : out.length - 1 < out.length := by omega
          by_cases hy : y.f0 = 4
          · have by4 : (y.f0 == 4) = true := by simpa using hy
            have hdrop : dropEnd (out.map toWd) = out.dropLast.map toWd := by
              unfold dropEnd
              rw [hle, if_pos by4, List.map_dropLast]
            have hlen : (out.dropLast.map toWd).length = out.length - 1 := by rw [List.length_map, List.length_dropLast]
            rw [hdrop] at Hcur Hok
            have Fin := Lib.hid (fun (h : World) (hb : h.heap[wr.heap.size]? = some (.cells #[.slice (some ⟨go, 0, none⟩) (out.length - 1) capo, .int .i64 0, .int .i64 0, .int .i64 0] 121 (0, 0))) (hk : Keeps (fun _ => False) wr h) => show RCur h wr.heap.size go (overCur s) from
              ⟨out.dropLast.map toWd, 0, 0, 0, Hcur.out, Hok.out, fun _ => ⟨rfl, rfl⟩, some ⟨go, 0, none⟩, capo, by rw [hlen]; exact hb, by rw [hlen]; omega, hc1, fun _ => ⟨0, rfl, fun j x hj => by
                rw [List.getElem?_map, List.getElem?_dropLast] at hj
                split at hj
                · rename_i hjl
                  rw [List.getElem?_eq_getElem (by omega)] at hj
                  simp only [Option.map_some, Option.some.injEq] at hj
                  subst hj
                  obtain ⟨a0, a1, a2, a3, a4⟩ := hcells j _ (List.getElem?_eq_getElem (by omega))
                  rw [Nat.zero_add]
                  exact ⟨hk.cell' a0 (by simp), hk.cell' a1 (by simp), hk.cell' a2 (by simp), hk.cell' a3 (by simp), hk.cell' a4 (by simp)⟩
                · cases hj⟩, by have := haddr.2.2; omega⟩)
            clear hcells hle hdrop hlen hy Hcur Hok
            go_wp2
            go_ret
            exact ⟨wr.heap.size, go, rfl, by omega, Or.inr (by have := haddr.2.1; omega), Fin.out _ (blk_new wr _) ((Keeps.refl _ wr).alloc _), HKw.out.alloc _⟩
          · have by4 : (y.f0 == 4) = false := by simpa using hy
            have hdrop : dropEnd (out.map toWd) = out.map toWd := by
              unfold dropEnd
              rw [hle, if_neg (by rw [by4]; decide)]
            have hlen : (out.map toWd).length = out.length := by rw [List.length_map]
            rw [hdrop] at Hcur Hok
            have Fin := Lib.hid (fun (h : World) (hb : h.heap[wr.heap.size]? = some (.cells #[.slice (some ⟨go, 0, none⟩) out.length capo, .int .i64 0, .int .i64 0, .int .i64 0] 121 (0, 0))) (hk : Keeps (fun _ => False) wr h) => show RCur h wr.heap.size go (overCur s) from
              ⟨out.map toWd, 0, 0, 0, Hcur.out, Hok.out, fun _ => ⟨rfl, rfl⟩, some ⟨go, 0, none⟩, capo, by rw [hlen]; exact hb, by rw [hlen]; omega, hc1, fun _ => ⟨0, rfl, fun j x hj => by
                rw [List.getElem?_map] at hj
                cases hq : out[j]? with
                | none => rw [hq] at hj; cases hj
                | some z =>
                  rw [hq] at hj
                  simp only [Option.map_some, Option.some.injEq] at hj
                  subst hj
                  obtain ⟨a0, a1, a2, a3, a4⟩ := hcells j _ hq
                  rw [Nat.zero_add]
                  exact ⟨hk.cell' a0 (by simp), hk.cell' a1 (by simp), hk.cell' a2 (by simp), hk.cell' a3 (by simp), hk.cell' a4 (by simp)⟩⟩, by have := haddr.2.2; omega⟩)
            clear hcells hle hdrop hlen hy Hcur Hok
            go_wp2
            go_ret
            exact ⟨wr.heap.size, go, rfl, by omega, Or.inr (by have := haddr.2.1; omega), Fin.out _ (blk_new wr _) ((Keeps.refl _ wr).alloc _), HKw.out.alloc _⟩
  · have b1 : (e != 0) = true := by simpa using he
    have hcur : overCur s = rcur [] e row col := by
      unfold overCur
      rw [hw, if_neg he]
      rfl
    have Hc := Lib.hid hcur
    have He := Lib.hid he
    clear hw hcur he
    go_enter Tryz.func32, Tryz.ntmps32
    go_wp2_with (first | (go_at_call 60; refine Hr.out.mono ?_; rintro e' w1 ⟨v0, rfl, hR, hB⟩; have HB1 := Lib.hid hB; clear hR hB))
    go_ret
    have hsz := HB1.out.size
    exact ⟨w1.heap.size, 0, rfl, hsz, Or.inl rfl, ⟨[], e, row, col, Hc.out, fun x hx => (by cases hx), fun q => absurd q He.out, none, 0, blk_new w1 _, Nat.le_refl _, by omega, fun q => absurd rfl q, by have := H4.out; omega⟩, (Keeps.of_below HB1.out _).alloc _⟩

end

end Go.Proofs.YtfpjdgobannneaaGreatDoor
