
/-
  The cursor of package line: its state as Lean data (Cur), how it lies in memory (CS), and the contracts of next, over, here, able, More.
-/
import Derived.Test.YtfpjdgobannneaaDoorProg
import Derived.Test.YtfpjdgobannneaaDoorMem
import Derived.Deep.QuietTactic
import Derived.BigQuiet
import Derived.Deep.RegionWith
import Derived.Deep.LoopGhost
import Derived.Outline
namespace Go.Proofs.YtfpjdgobannneaaDoor
open Go Go.RowKit

/-- what a word has -/
inductive Has where
  | name (s : ByteArray)
  | num (n : Int)
  | mark (s : ByteArray)
  | stop

def Has.v : Has → Value
  | .name s => .iface 111 (.string s)
  | .num n => .iface 3 (.int .i64 n)
  | .mark s => .iface 112 (.string s)
  | .stop => .iface 114 (.agg #[])

def Has.eqb : Has → Has → Bool
  | .name s, .name t => s == t
  | .num n, .num m => n == m
  | .mark s, .mark t => s == t
  | .stop, .stop => true
  | _, _ => false

structure Item where
  line : Int
  col : Int
  has : Has

structure Cur where
  items : List Item
  wrong : Int
  l : Int
  c : Int

/-- the items lie in block ib -/
def RowIn (w : World) (ib : Nat) (A : Option Addr) (its : List Item) : Prop :=
  its ≠ [] → ∃ off, A = some ⟨ib, off, none⟩ ∧ ∀ j x, its[j]? = some x →
    w.cell? ⟨ib, off + 3 * j, none⟩ = some (.int .i64 x.line) ∧ w.cell? ⟨ib, off + 3 * j + 1, none⟩ = some (.int .i64 x.col) ∧ w.cell? ⟨ib, off + 3 * j + 2, none⟩ = some x.has.v

def CurBlk (A : Option Addr) (c : Nat) (st : Cur) : Obj :=
  .cells #[.slice A st.items.length c, .int .i64 st.wrong, .int .i64 st.l, .int .i64 st.c, .bool true] 81 (0, 0)

/-- a cursor that was made lies at block b, its items in block ib -/
def CS (w : World) (b ib : Nat) (st : Cur) : Prop :=
  ∃ A c, w.heap[b]? = some (CurBlk A c st) ∧ st.items.length ≤ c ∧ c ≤ 9223372036854775807 ∧ RowIn w ib A st.items ∧ ib ≠ b

theorem RowIn.keeps {S : Nat → Prop} {w w' : World} {ib : Nat} {A : Option Addr} {its : List Item} (h : RowIn w ib A its) (hk : Keeps S w w') (hs : ¬ S ib) : RowIn w' ib A its := by
  intro hne
  obtain ⟨off, hA, hc⟩ := h hne
  refine ⟨off, hA, fun j x hj => ?_⟩
  obtain ⟨a1, a2, a3⟩ := hc j x hj
  exact ⟨hk.cell' a1 hs, hk.cell' a2 hs, hk.cell' a3 hs⟩

theorem CS.keeps {S : Nat → Prop} {w w' : World} {b ib : Nat} {st : Cur} (h : CS w b ib st) (hk : Keeps S w w') (hs : ¬ S b) (hi : ¬ S ib) : CS w' b ib st := by
  obtain ⟨A, c, hb, hl, hc, hr, hne⟩ := h
  exact ⟨A, c, hk.heap hb hs, hl, hc, hr.keeps hk hi, hne⟩

theorem CS.keep0 {w w' : World} {b ib : Nat} {st : Cur} (h : CS w b ib st) (hk : Keeps (fun _ => False) w w') : CS w' b ib st := h.keeps hk (by simp) (by simp)

section
variable {b ib : Nat} {st : Cur} {w : World}

theorem CS.cells (h : CS w b ib st) : ∃ A c, w.cell? ⟨b, 0, none⟩ = some (.slice A st.items.length c) ∧ w.cell? ⟨b, 1, none⟩ = some (.int .i64 st.wrong) ∧
    w.cell? ⟨b, 2, none⟩ = some (.int .i64 st.l) ∧ w.cell? ⟨b, 3, none⟩ = some (.int .i64 st.c) ∧ w.cell? ⟨b, 4, none⟩ = some (.bool true) ∧
    st.items.length ≤ c ∧ c ≤ 9223372036854775807 ∧ RowIn w ib A st.items := by
  obtain ⟨A, c, hb, hl, hc, hr, _⟩ := h
  exact ⟨A, c, (blk_cell hb 0).trans rfl, (blk_cell hb 1).trans rfl, (blk_cell hb 2).trans rfl, (blk_cell hb 3).trans rfl, (blk_cell hb 4).trans rfl, hl, hc, hr⟩

theorem CS.lt (h : CS w b ib st) : b < w.heap.size := by
  obtain ⟨A, c, hb, _⟩ := h
  exact lt_of_heap hb

def Cur.next (st : Cur) : Option Has := st.items.head?.map (·.has)

def hasV : Option Has → Value
  | some h => h.v
  | none => .nilIface

theorem next_calls (h : CS w b ib st) :
    Calls Tryd.prog 55 #[.pointer (some ⟨b, 0, none⟩)] w fun e w' => e = .returned (hasV st.next) ∧ w = w' := by
  obtain ⟨A, c, h0, _, _, _, _, hl, hc, hr⟩ := h.cells
  obtain ⟨its, wrong, l, cc⟩ := st
  cases its with
  | nil =>
    simp only [List.length_nil] at h0
    clear hr
    go_enter Tryd.func55, Tryd.ntmps55
    go_wp2
    go_ret
    exact ⟨rfl, rfl⟩
  | cons x rest =>
    obtain ⟨off, rfl, hx⟩ := hr (by simp)
    obtain ⟨_, _, a3⟩ := hx 0 x rfl
    clear hx
    have a3' : w.cell? ⟨ib, off + 2, none⟩ = some x.has.v := a3
    clear a3
    simp only [List.length_cons] at h0 hl
    have hpos : ((((rest.length + 1 : Nat) : Int)) == 0) = false := by simp; omega
    go_enter Tryd.func55, Tryd.ntmps55
    go_wp2
    go_ret
    exact ⟨rfl, rfl⟩

end
end Go.Proofs.YtfpjdgobannneaaDoor

/-
  The contracts of the cursor's able, More, over, here, is, Key, Is, Fail.
-/
namespace Go.Proofs.YtfpjdgobannneaaDoor
open Go Go.RowKit

section
variable {b ib : Nat} {st : Cur} {w : World}

theorem able_t (h : CS w b ib st) (hw : st.wrong = 0) :
    Calls Tryd.prog 54 #[.pointer (some ⟨b, 0, none⟩)] w fun e w' => e = .returned (.bool true) ∧ w = w' := by
  obtain ⟨A, c, _, h1, _, _, h4, _, _, _⟩ := h.cells
  rw [hw] at h1
  clear hw h
  go_enter Tryd.func54, Tryd.ntmps54
  go_wp2
  go_ret
  exact ⟨rfl, rfl⟩

theorem able_f (h : CS w b ib st) (hw : st.wrong ≠ 0) :
    Calls Tryd.prog 54 #[.pointer (some ⟨b, 0, none⟩)] w fun e w' => e = .returned (.bool false) ∧ w = w' := by
  obtain ⟨A, c, _, h1, _, _, h4, _, _, _⟩ := h.cells
  have hw' : (st.wrong == 0) = false := by simpa using hw
  clear hw h
  go_enter Tryd.func54, Tryd.ntmps54
  go_wp2
  go_ret
  exact ⟨rfl, rfl⟩

theorem hasV_nil {o : Option Has} (h : o = none) : hasV o = .nilIface := by rw [h]; rfl

def Cur.more (st : Cur) : Bool := st.wrong == 0 && !st.items.isEmpty

@[go_sem] theorem Has.guard (h : Has) (op : BinOp) (t : TypeId) (x y : Operand) (u : Value) : eqGuard op t x y h.v u = pure () := by
  cases op <;> cases h <;> rfl

@[go_sem] theorem Has.ne_nil (h : Has) (w : World) : (binOp .neq 20 h.v .nilIface).run Tryd.prog w = .ok (.bool true) w := by
  cases h <;> kernel_rfl

theorem more_calls (h : CS w b ib st) :
    Calls Tryd.prog 39 #[.pointer (some ⟨b, 0, none⟩)] w fun e w' => e = .returned (.bool st.more) ∧ w = w' := by
  by_cases hw : st.wrong = 0
  · have ht := able_t h hw
    have hn := next_calls h
    obtain ⟨its, wrong, l, cc⟩ := st
    simp only at hw
    subst hw
    cases its with
    | nil =>
      have e1 : Cur.more ⟨[], 0, l, cc⟩ = false := rfl
      have e2 : hasV (Cur.next ⟨[], 0, l, cc⟩) = .nilIface := rfl
      rw [e1]
      rw [e2] at hn
      have Ht := Lib.hid ht
      have Hn := Lib.hid hn
      clear ht hn h e1 e2
      go_enter Tryd.func39, Tryd.ntmps39
      go_wp2_with (first | (go_at_call 54; refine Ht.out.mono ?_; rintro e w' ⟨rfl, rfl⟩) | (go_at_call 55; refine Hn.out.mono ?_; rintro e w' ⟨rfl, rfl⟩))
      go_ret
      exact ⟨rfl, rfl⟩
    | cons x rest =>
      have e1 : Cur.more ⟨x :: rest, 0, l, cc⟩ = true := rfl
      have e2 : hasV (Cur.next ⟨x :: rest, 0, l, cc⟩) = x.has.v := rfl
      rw [e1]
      rw [e2] at hn
      have Ht := Lib.hid ht
      have Hn := Lib.hid hn
      clear ht hn h e1 e2
      go_enter Tryd.func39, Tryd.ntmps39
      go_wp2_with (first | (go_at_call 54; refine Ht.out.mono ?_; rintro e w' ⟨rfl, rfl⟩) | (go_at_call 55; refine Hn.out.mono ?_; rintro e w' ⟨rfl, rfl⟩))
      go_ret
      exact ⟨rfl, rfl⟩
  · have hf := able_f h hw
    have e1 : st.more = false := by simp [Cur.more, hw]
    rw [e1]
    have Hf := Lib.hid hf
    clear hf h e1 hw
    go_enter Tryd.func39, Tryd.ntmps39
    go_wp2_with (first | (go_at_call 54; refine Hf.out.mono ?_; rintro e w' ⟨rfl, rfl⟩))
    go_ret
    exact ⟨rfl, rfl⟩

/-- what the cursor's methods leave: its state, and all else as it was -/
def CSK (w w' : World) (b ib : Nat) (st : Cur) : Prop := CS w' b ib st ∧ Keeps (fun k => k = b) w w'

def Cur.over (st : Cur) : Cur := { st with items := st.items.tail }

theorem over_calls (h : CS w b ib st) (hne : st.items ≠ []) :
    Calls Tryd.prog 35 #[.pointer (some ⟨b, 0, none⟩)] w fun e w' => e = .returned (.tuple #[]) ∧ CSK w w' b ib st.over := by
  obtain ⟨A, c, hb, hl, hc, hr, hib⟩ := h
  obtain ⟨its, wrong, l, cc⟩ := st
  cases its with
  | nil => exact absurd rfl hne
  | cons x rest =>
    obtain ⟨off, rfl, hx⟩ := hr (by simp)
    have h0 : w.cell? ⟨b, 0, none⟩ = some (.slice (some ⟨ib, off, none⟩) (rest.length + 1) c) := (blk_cell hb 0).trans rfl
    have f0 := blk_free hb 0
    simp only [List.length_cons] at hl
    by_cases hc1 : c = 1
    · subst hc1
      have hr0 : rest = [] := by
        cases rest with
        | nil => rfl
        | cons y t => simp at hl
      subst hr0
      have fin : CSK w (w.setCell ⟨b, 0, none⟩ (.slice (some ⟨ib, off, none⟩) 0 0)) b ib (Cur.over ⟨[x], wrong, l, cc⟩) :=
        ⟨⟨some ⟨ib, off, none⟩, 0, blk_set hb 0 _, Nat.le_refl _, by omega, fun hn => absurd rfl hn, hib⟩, keeps1 _ _ _ _⟩
      have Fin := Lib.hid fin
      clear fin hx hr hb hne hib hl hc
      go_enter Tryd.func35, Tryd.ntmps35
      go_wp2
      go_end0
      exact ⟨rfl, Fin.out⟩
    · have fin : CSK w (w.setCell ⟨b, 0, none⟩ (.slice (some ⟨ib, off + 3, none⟩) rest.length (c - 1))) b ib (Cur.over ⟨x :: rest, wrong, l, cc⟩) := by
        refine ⟨⟨some ⟨ib, off + 3, none⟩, c - 1, blk_set hb 0 _, ?_, by omega, fun hn => ⟨off + 3, rfl, fun j y hj => ?_⟩, hib⟩, keeps1 _ _ _ _⟩
        · show rest.length ≤ c - 1
          omega
        · obtain ⟨a1, a2, a3⟩ := hx (j + 1) y hj
          have hk : Keeps (fun k => k = b) w (w.setCell ⟨b, 0, none⟩ (.slice (some ⟨ib, off + 3, none⟩) rest.length (c - 1))) := keeps1 _ _ _ _
          rw [show off + 3 + 3 * j = off + 3 * (j + 1) by omega]
          exact ⟨hk.cell' a1 hib, hk.cell' a2 hib, hk.cell' a3 hib⟩
      have Fin := Lib.hid fin
      have hc2 : 1 < c := by omega
      clear fin hx hr hb hne hib hc1
      go_enter Tryd.func35, Tryd.ntmps35
      go_wp2
      go_end0
      exact ⟨rfl, Fin.out⟩

end
end Go.Proofs.YtfpjdgobannneaaDoor

/-
  The contracts of the cursor's here, is, Key, Is, Fail.
-/
namespace Go.Proofs.YtfpjdgobannneaaDoor
open Go Go.RowKit

section
variable {b ib : Nat} {st : Cur} {w : World}

def Cur.here (st : Cur) : Int × Int := match st.items with
  | [] => (0, 0)
  | x :: _ => (x.line, x.col)

theorem here_calls (h : CS w b ib st) :
    Calls Tryd.prog 42 #[.pointer (some ⟨b, 0, none⟩)] w fun e w' => e = .returned (.agg #[.int .i64 st.here.1, .int .i64 st.here.2]) ∧ Keeps (fun _ => False) w w' := by
  have hlt := h.lt
  obtain ⟨A, c, h0, _, _, _, _, hl, hc, hr⟩ := h.cells
  obtain ⟨its, wrong, l, cc⟩ := st
  cases its with
  | nil =>
    simp only [List.length_nil] at h0
    clear hr h
    go_enter Tryd.func42, Tryd.ntmps42
    go_wp2
    exact bodyPost_ret (v := .agg #[.int .i64 0, .int .i64 0]) (by simp [results, Tryd.results42, go_sem]) rfl ⟨rfl, (((Keeps.refl _ _).alloc _))⟩
  | cons x rest =>
    obtain ⟨off, rfl, hx⟩ := hr (by simp)
    obtain ⟨a1, a2, a3⟩ := hx 0 x rfl
    clear hx hr h
    have a1' : w.cell? ⟨ib, off, none⟩ = some (.int .i64 x.line) := a1
    have a2' : w.cell? ⟨ib, off + 1, none⟩ = some (.int .i64 x.col) := a2
    have hil : ib < w.heap.size := by
      rcases Nat.lt_or_ge ib w.heap.size with q | q
      · exact q
      · simp [World.cell?, Array.getElem?_eq_none (show w.heap.size ≤ ib from q)] at a1
    clear a1 a2 a3
    simp only [List.length_cons] at h0 hl
    have hpos : decide ((0 : Int) < ((rest.length + 1 : Nat) : Int)) = true := by simp
    go_enter Tryd.func42, Tryd.ntmps42
    go_wp2
    exact bodyPost_ret (v := .agg #[.int .i64 x.line, .int .i64 x.col]) (by simp [results, Tryd.results42, go_sem]) rfl ⟨rfl, (((Keeps.refl _ _).alloc _))⟩

@[go_sem] theorem Has.neq_run (a x : Has) (w : World) : (binOp .neq 20 a.v x.v).run Tryd.prog w = .ok (.bool (!a.eqb x)) w := by
  cases a <;> cases x <;> kernel_rfl

@[go_sem] theorem Has.eql_run (a x : Has) (w : World) : (binOp .eql 20 a.v x.v).run Tryd.prog w = .ok (.bool (a.eqb x)) w := by
  cases a <;> cases x <;> kernel_rfl

@[go_sem] theorem Has.nil_neq_run (x : Has) (w : World) : (binOp .neq 20 .nilIface x.v).run Tryd.prog w = .ok (.bool true) w := by
  cases x <;> kernel_rfl

@[go_sem] theorem Has.nil_eql_run (x : Has) (w : World) : (binOp .eql 20 .nilIface x.v).run Tryd.prog w = .ok (.bool false) w := by
  cases x <;> kernel_rfl

@[go_sem] theorem Has.guard' (h : Has) (op : BinOp) (t : TypeId) (x y : Operand) : eqGuard op t x y .nilIface h.v = pure () := by
  cases op <;> cases h <;> rfl

def Cur.is (st : Cur) (x : Has) : Bool := st.wrong == 0 && match st.items with
  | [] => false
  | y :: _ => y.has.eqb x

theorem is_f (h : CS w b ib st) {x : Has} (hi : st.is x = false) :
    Calls Tryd.prog 53 #[.pointer (some ⟨b, 0, none⟩), x.v] w fun e w' => e = .returned (.bool false) ∧ w = w' := by
  by_cases hw : st.wrong = 0
  · have Ht := Lib.hid (able_t h hw)
    have Hn := Lib.hid (next_calls h)
    obtain ⟨its, wrong, l, cc⟩ := st
    simp only at hw
    subst hw
    cases its with
    | nil =>
      have e2 : hasV (Cur.next ⟨[], 0, l, cc⟩) = .nilIface := rfl
      rw [e2] at Hn
      clear h e2 hi
      go_enter Tryd.func53, Tryd.ntmps53
      go_wp2_with (first | (go_at_call 54; refine Ht.out.mono ?_; rintro e w' ⟨rfl, rfl⟩) | (go_at_call 55; refine Hn.out.mono ?_; rintro e w' ⟨rfl, rfl⟩))
      go_ret
      exact ⟨rfl, rfl⟩
    | cons y rest =>
      have e2 : hasV (Cur.next ⟨y :: rest, 0, l, cc⟩) = y.has.v := rfl
      have e3 : y.has.eqb x = false := hi
      rw [e2] at Hn
      clear h e2 hi
      go_enter Tryd.func53, Tryd.ntmps53
      go_wp2_with (first | (go_at_call 54; refine Ht.out.mono ?_; rintro e w' ⟨rfl, rfl⟩) | (go_at_call 55; refine Hn.out.mono ?_; rintro e w' ⟨rfl, rfl⟩))
      go_ret
      exact ⟨rfl, rfl⟩
  · have Hf := Lib.hid (able_f h hw)
    clear h hi hw
    go_enter Tryd.func53, Tryd.ntmps53
    go_wp2_with (first | (go_at_call 54; refine Hf.out.mono ?_; rintro e w' ⟨rfl, rfl⟩))
    go_ret
    exact ⟨rfl, rfl⟩

theorem is_t (h : CS w b ib st) {x : Has} (hi : st.is x = true) :
    Calls Tryd.prog 53 #[.pointer (some ⟨b, 0, none⟩), x.v] w fun e w' => e = .returned (.bool true) ∧ CSK w w' b ib st.over := by
  obtain ⟨its, wrong, l, cc⟩ := st
  obtain ⟨hw, hi⟩ : (wrong == 0) = true ∧ _ = true := Bool.and_eq_true_iff.1 hi
  obtain rfl : wrong = 0 := by simpa using hw
  cases its with
  | nil => exact absurd hi (by simp)
  | cons y rest =>
    have Ht := Lib.hid (able_t h rfl)
    have Hn := Lib.hid (next_calls h)
    have Ho := Lib.hid (over_calls h (by simp))
    have e2 : hasV (Cur.next ⟨y :: rest, 0, l, cc⟩) = y.has.v := rfl
    have e3 : y.has.eqb x = true := hi
    rw [e2] at Hn
    clear h e2 hi hw
    go_enter Tryd.func53, Tryd.ntmps53
    go_wp2_with (first | (go_at_call 54; refine Ht.out.mono ?_; rintro e w' ⟨rfl, rfl⟩) | (go_at_call 55; refine Hn.out.mono ?_; rintro e w' ⟨rfl, rfl⟩) | (go_at_call 35; refine Ho.out.mono ?_; rintro e w1 ⟨rfl, h10⟩; have h1 := Lib.hid h10; clear h10))
    go_ret
    exact ⟨rfl, h1.out⟩

end
end Go.Proofs.YtfpjdgobannneaaDoor

/-
  The contracts of the cursor's Key, Is, Fail.
-/
namespace Go.Proofs.YtfpjdgobannneaaDoor
open Go Go.RowKit

section
variable {b ib : Nat} {st : Cur} {w : World}

def Cur.isTo (st : Cur) (x : Has) : Cur := if st.is x = true then st.over else st

theorem key_calls (h : CS w b ib st) (s : ByteArray) :
    Calls Tryd.prog 36 #[.pointer (some ⟨b, 0, none⟩), .string s] w fun e w' => e = .returned (.bool (st.is (.name s))) ∧ CSK w w' b ib (st.isTo (.name s)) := by
  cases hi : st.is (.name s) with
  | true =>
    have hc := is_t h hi
    simp only [Has.v] at hc
    have e1 : st.isTo (.name s) = st.over := by simp [Cur.isTo, hi]
    rw [e1]
    have Hc := Lib.hid hc
    clear hc h e1 hi
    go_enter Tryd.func36, Tryd.ntmps36
    go_wp2_with (first | (go_at_call 53; refine Hc.out.mono ?_; rintro e w1 ⟨rfl, h10⟩; have h1 := Lib.hid h10; clear h10))
    go_ret
    exact ⟨rfl, h1.out⟩
  | false =>
    have hc := is_f h hi
    simp only [Has.v] at hc
    have e1 : st.isTo (.name s) = st := by simp [Cur.isTo, hi]
    rw [e1]
    have fin : CSK w w b ib st := ⟨h, Keeps.refl _ _⟩
    have Fin := Lib.hid fin
    have Hc := Lib.hid hc
    clear hc h e1 hi fin
    go_enter Tryd.func36, Tryd.ntmps36
    go_wp2_with (first | (go_at_call 53; refine Hc.out.mono ?_; rintro e w' ⟨rfl, rfl⟩))
    go_ret
    exact ⟨rfl, Fin.out⟩

def Cur.fail (st : Cur) (e : Int) : Cur := if st.wrong = 0 ∧ e ≠ 0 then { st with wrong := e, l := st.here.1, c := st.here.2 } else st

theorem fail_calls (h : CS w b ib st) (x : Int) :
    Calls Tryd.prog 37 #[.pointer (some ⟨b, 0, none⟩), .int .i64 x] w fun e w' => e = .returned (.tuple #[]) ∧ CSK w w' b ib (st.fail x) := by
  by_cases hw : st.wrong = 0
  · have Ht := Lib.hid (able_t h hw)
    by_cases hx : x = 0
    · have e1 : st.fail x = st := by simp [Cur.fail, hx]
      rw [e1]
      have Fin := Lib.hid (show CSK w w b ib st from ⟨h, Keeps.refl _ _⟩)
      have hx' : (x != 0) = false := by simpa using hx
      clear h e1 hw hx
      go_enter Tryd.func37, Tryd.ntmps37
      go_wp2_with (first | (go_at_call 54; refine Ht.out.mono ?_; rintro e w' ⟨rfl, rfl⟩))
      go_end0
      exact ⟨rfl, Fin.out⟩
    · have e1 : st.fail x = { st with wrong := x, l := st.here.1, c := st.here.2 } := by simp [Cur.fail, hw, hx]
      rw [e1]
      have Hh := Lib.hid (here_calls h)
      have H := Lib.hid h
      have hx' : (x != 0) = true := by simpa using hx
      clear h e1 hw hx
      go_enter Tryd.func37, Tryd.ntmps37
      go_wp2_with (first | (go_at_call 54; refine Ht.out.mono ?_; rintro e w' ⟨rfl, rfl⟩) | (go_at_call 42; refine Hh.out.mono ?_; rintro e w1 ⟨rfl, hk⟩; have H1 := H.out.keep0 hk; obtain ⟨A, c, hb, h5⟩ := H1; have q1 := (blk_cell hb 1).trans rfl; have q2 := (blk_cell hb 2).trans rfl; have q3 := (blk_cell hb 3).trans rfl; have f1 := blk_free hb 1; have f2 := blk_free hb 2; have f3 := blk_free hb 3; have Hk := Lib.hid hk; have Hb := Lib.hid hb; have H5 := Lib.hid h5; clear hk hb h5))
      go_end0
      obtain ⟨hl, hc, hr, hib⟩ := H5.out
      refine ⟨rfl, ⟨A, c, ?_, hl, hc, hr.keeps (((keeps1 w1 b 1 _).set1 2 _).set1 3 _) hib, hib⟩, ?_⟩
      · exact blk_set (blk_set (blk_set Hb.out 1 _) 2 _) 3 _
      · exact (((Hk.out.mono (fun _ _ q => q.elim)).set1 1 _).set1 2 _).set1 3 _
  · have e1 : st.fail x = st := by simp [Cur.fail, hw]
    rw [e1]
    have Fin := Lib.hid (show CSK w w b ib st from ⟨h, Keeps.refl _ _⟩)
    have Hf := Lib.hid (able_f h hw)
    clear h e1 hw
    go_enter Tryd.func37, Tryd.ntmps37
    go_wp2_with (first | (go_at_call 54; refine Hf.out.mono ?_; rintro e w' ⟨rfl, rfl⟩))
    go_end0
    exact ⟨rfl, Fin.out⟩

end
end Go.Proofs.YtfpjdgobannneaaDoor

/-
  The contracts of the cursor's Ends, Peek, Name, Num.
-/
namespace Go.Proofs.YtfpjdgobannneaaDoor
open Go Go.RowKit

def Has.asName : Has → ByteArray × Bool
  | .name s => (s, true)
  | _ => (⟨#[]⟩, false)

def Has.asNum : Has → Int × Bool
  | .num n => (n, true)
  | _ => (0, false)

@[go_sem] theorem Has.assertName (h : Has) (w : World) :
    (Instr.typeAssert h.v 20 111 true).run Tryd.prog w = .ok (.tuple #[.string h.asName.1, .bool h.asName.2]) w := by
  cases h <;> kernel_rfl

@[go_sem] theorem nil_assertName (w : World) :
    (Instr.typeAssert .nilIface 20 111 true).run Tryd.prog w = .ok (.tuple #[.string ⟨#[]⟩, .bool false]) w := by
  kernel_rfl

@[go_sem] theorem Has.assertNum (h : Has) (w : World) :
    (Instr.typeAssert h.v 20 3 true).run Tryd.prog w = .ok (.tuple #[.int .i64 h.asNum.1, .bool h.asNum.2]) w := by
  cases h <;> kernel_rfl

@[go_sem] theorem nil_assertNum (w : World) :
    (Instr.typeAssert .nilIface 20 3 true).run Tryd.prog w = .ok (.tuple #[.int .i64 0, .bool false]) w := by
  kernel_rfl

section
variable {b ib : Nat} {st : Cur} {w : World}

def Cur.ends (st : Cur) : Bool := !st.more || match st.items with
  | [] => false
  | y :: _ => y.has.eqb .stop

theorem stop_v : Has.stop.v = .iface 114 (.agg #[]) := rfl

theorem ends_calls (h : CS w b ib st) :
    Calls Tryd.prog 40 #[.pointer (some ⟨b, 0, none⟩)] w fun e w' => e = .returned (.bool st.ends) ∧ w = w' := by
  have Hm := Lib.hid (more_calls h)
  cases hm : st.more with
  | false =>
    have e1 : st.ends = true := by simp [Cur.ends, hm]
    rw [e1]
    rw [hm] at Hm
    clear h e1 hm
    go_enter Tryd.func40, Tryd.ntmps40
    go_wp2_with (first | (go_at_call 39; refine Hm.out.mono ?_; rintro e w' ⟨rfl, rfl⟩))
    go_ret
    exact ⟨rfl, rfl⟩
  | true =>
    rw [hm] at Hm
    have Hn := Lib.hid (next_calls h)
    obtain ⟨its, wrong, l, cc⟩ := st
    cases its with
    | nil => exact absurd hm (by simp [Cur.more])
    | cons y rest =>
      have e1 : Cur.ends ⟨y :: rest, wrong, l, cc⟩ = y.has.eqb .stop := by simp [Cur.ends, hm]
      rw [e1]
      have e2 : hasV (Cur.next ⟨y :: rest, wrong, l, cc⟩) = y.has.v := rfl
      rw [e2] at Hn
      have hq := fun w => y.has.eql_run .stop w
      simp only [stop_v] at hq
      clear h e1 hm e2
      go_enter Tryd.func40, Tryd.ntmps40
      go_wp2_with (first | (go_at_call 39; refine Hm.out.mono ?_; rintro e w' ⟨rfl, rfl⟩) | (go_at_call 55; refine Hn.out.mono ?_; rintro e w' ⟨rfl, rfl⟩))
      go_ret
      exact ⟨rfl, rfl⟩

def Cur.peek (st : Cur) : ByteArray := if st.wrong = 0 then match st.items with
  | [] => ⟨#[]⟩
  | y :: _ => y.has.asName.1
  else ⟨#[]⟩

theorem peek_calls (h : CS w b ib st) :
    Calls Tryd.prog 41 #[.pointer (some ⟨b, 0, none⟩)] w fun e w' => e = .returned (.string st.peek) ∧ w = w' := by
  by_cases hw : st.wrong = 0
  · have Ht := Lib.hid (able_t h hw)
    have Hn := Lib.hid (next_calls h)
    obtain ⟨its, wrong, l, cc⟩ := st
    simp only at hw
    subst hw
    cases its with
    | nil =>
      have e2 : hasV (Cur.next ⟨[], 0, l, cc⟩) = .nilIface := rfl
      rw [e2] at Hn
      have e1 : Cur.peek ⟨[], 0, l, cc⟩ = ⟨#[]⟩ := rfl
      rw [e1]
      clear h e2 e1
      go_enter Tryd.func41, Tryd.ntmps41
      go_wp2_with (first | (go_at_call 54; refine Ht.out.mono ?_; rintro e w' ⟨rfl, rfl⟩) | (go_at_call 55; refine Hn.out.mono ?_; rintro e w' ⟨rfl, rfl⟩))
      go_ret
      exact ⟨rfl, rfl⟩
    | cons y rest =>
      have e2 : hasV (Cur.next ⟨y :: rest, 0, l, cc⟩) = y.has.v := rfl
      rw [e2] at Hn
      have e1 : Cur.peek ⟨y :: rest, 0, l, cc⟩ = y.has.asName.1 := rfl
      rw [e1]
      clear h e2 e1
      go_enter Tryd.func41, Tryd.ntmps41
      go_wp2_with (first | (go_at_call 54; refine Ht.out.mono ?_; rintro e w' ⟨rfl, rfl⟩) | (go_at_call 55; refine Hn.out.mono ?_; rintro e w' ⟨rfl, rfl⟩))
      go_ret
      exact ⟨rfl, rfl⟩
  · have Hf := Lib.hid (able_f h hw)
    have e1 : st.peek = ⟨#[]⟩ := by simp [Cur.peek, hw]
    rw [e1]
    clear h hw e1
    go_enter Tryd.func41, Tryd.ntmps41
    go_wp2_with (first | (go_at_call 54; refine Hf.out.mono ?_; rintro e w' ⟨rfl, rfl⟩))
    go_ret
    exact ⟨rfl, rfl⟩

/-- Name: what it tells, and the state behind it -/
def Cur.name (st : Cur) : ByteArray × Cur := if st.wrong = 0 then match st.items with
  | [] => (⟨#[]⟩, st.fail 7)
  | y :: _ => if y.has.asName.2 = true then (y.has.asName.1, st.over) else (⟨#[]⟩, st.fail 7)
  else (⟨#[]⟩, st)

/-- Num: what it tells, and the state behind it -/
def Cur.num (st : Cur) (least most : Int) : Int × Cur := if st.wrong = 0 then match st.items with
  | [] => (0, st.fail 7)
  | y :: _ => if y.has.asNum.2 = true then if y.has.asNum.1 < least ∨ most < y.has.asNum.1 then (0, st.fail 3) else (y.has.asNum.1, st.over) else (0, st.fail 7)
  else (0, st)

theorem num_calls (h : CS w b ib st) (least most : Int) :
    Calls Tryd.prog 38 #[.pointer (some ⟨b, 0, none⟩), .int .i64 least, .int .i64 most] w fun e w' =>
      e = .returned (.int .i64 (st.num least most).1) ∧ CSK w w' b ib (st.num least most).2 := by
  by_cases hw : st.wrong = 0
  · have Ht := Lib.hid (able_t h hw)
    have Hn := Lib.hid (next_calls h)
    have Hf := Lib.hid (fail_calls h 7)
    obtain ⟨its, wrong, l, cc⟩ := st
    simp only at hw
    subst hw
    cases its with
    | nil =>
      have e2 : hasV (Cur.next ⟨[], 0, l, cc⟩) = .nilIface := rfl
      rw [e2] at Hn
      have e1 : Cur.num ⟨[], 0, l, cc⟩ least most = (0, Cur.fail ⟨[], 0, l, cc⟩ 7) := rfl
      rw [e1]
      clear h e2 e1
      go_enter Tryd.func38, Tryd.ntmps38
      go_wp2_with (first | (go_at_call 54; refine Ht.out.mono ?_; rintro e w' ⟨rfl, rfl⟩) | (go_at_call 55; refine Hn.out.mono ?_; rintro e w' ⟨rfl, rfl⟩) | (go_at_call 37; refine Hf.out.mono ?_; rintro e w1 ⟨rfl, h10⟩; have h1 := Lib.hid h10; clear h10))
      go_ret
      exact ⟨rfl, h1.out⟩
    | cons y rest =>
      have e2 : hasV (Cur.next ⟨y :: rest, 0, l, cc⟩) = y.has.v := rfl
      rw [e2] at Hn
      cases hy : y.has.asNum.2 with
      | true =>
        by_cases hlo : y.has.asNum.1 < least ∨ most < y.has.asNum.1
        · have e1 : Cur.num ⟨y :: rest, 0, l, cc⟩ least most = (0, Cur.fail ⟨y :: rest, 0, l, cc⟩ 3) := by simp [Cur.num, hy, hlo]
          rw [e1]
          clear Hf
          have Hf := Lib.hid (fail_calls h 3)
          clear h e2 e1
          rcases Int.lt_or_le y.has.asNum.1 least with h1 | h1
          · clear hlo
            go_enter Tryd.func38, Tryd.ntmps38
            go_wp2_with (first | (go_at_call 54; refine Ht.out.mono ?_; rintro e w' ⟨rfl, rfl⟩) | (go_at_call 55; refine Hn.out.mono ?_; rintro e w' ⟨rfl, rfl⟩) | (go_at_call 37; refine Hf.out.mono ?_; rintro e w1 ⟨rfl, h10⟩; have h1 := Lib.hid h10; clear h10))
            go_ret
            exact ⟨rfl, h1.out⟩
          · have h2 : most < y.has.asNum.1 := by omega
            clear hlo
            go_enter Tryd.func38, Tryd.ntmps38
            go_wp2_with (first | (go_at_call 54; refine Ht.out.mono ?_; rintro e w' ⟨rfl, rfl⟩) | (go_at_call 55; refine Hn.out.mono ?_; rintro e w' ⟨rfl, rfl⟩) | (go_at_call 37; refine Hf.out.mono ?_; rintro e w1 ⟨rfl, h10⟩; have h1 := Lib.hid h10; clear h10))
            go_ret
            exact ⟨rfl, h1.out⟩
        · have Ho := Lib.hid (over_calls h (by simp))
          have e1 : Cur.num ⟨y :: rest, 0, l, cc⟩ least most = (y.has.asNum.1, Cur.over ⟨y :: rest, 0, l, cc⟩) := by simp [Cur.num, hy, hlo]
          rw [e1]
          have h1 : least ≤ y.has.asNum.1 := by omega
          have h2 : y.has.asNum.1 ≤ most := by omega
          clear h e2 e1 Hf hlo
          go_enter Tryd.func38, Tryd.ntmps38
          go_wp2_with (first | (go_at_call 54; refine Ht.out.mono ?_; rintro e w' ⟨rfl, rfl⟩) | (go_at_call 55; refine Hn.out.mono ?_; rintro e w' ⟨rfl, rfl⟩) | (go_at_call 35; refine Ho.out.mono ?_; rintro e w1 ⟨rfl, h10⟩; have h1 := Lib.hid h10; clear h10))
          go_ret
          exact ⟨rfl, h1.out⟩
      | false =>
        have e1 : Cur.num ⟨y :: rest, 0, l, cc⟩ least most = (0, Cur.fail ⟨y :: rest, 0, l, cc⟩ 7) := by simp [Cur.num, hy]
        rw [e1]
        clear h e2 e1
        go_enter Tryd.func38, Tryd.ntmps38
        go_wp2_with (first | (go_at_call 54; refine Ht.out.mono ?_; rintro e w' ⟨rfl, rfl⟩) | (go_at_call 55; refine Hn.out.mono ?_; rintro e w' ⟨rfl, rfl⟩) | (go_at_call 37; refine Hf.out.mono ?_; rintro e w1 ⟨rfl, h10⟩; have h1 := Lib.hid h10; clear h10))
        go_ret
        exact ⟨rfl, h1.out⟩
  · have Hf := Lib.hid (able_f h hw)
    have e1 : st.num least most = (0, st) := by simp [Cur.num, hw]
    rw [e1]
    have Fin := Lib.hid (show CSK w w b ib st from ⟨h, Keeps.refl _ _⟩)
    clear h hw e1
    go_enter Tryd.func38, Tryd.ntmps38
    go_wp2_with (first | (go_at_call 54; refine Hf.out.mono ?_; rintro e w' ⟨rfl, rfl⟩))
    go_ret
    exact ⟨rfl, Fin.out⟩

end
end Go.Proofs.YtfpjdgobannneaaDoor

/-
  The contracts of the cursor's End, Err, Mark.
-/
namespace Go.Proofs.YtfpjdgobannneaaDoor
open Go Go.RowKit

@[go_sem] theorem field_place0 (x y : Int) (w : World) : (Instr.field 79 (.agg #[.int .i64 x, .int .i64 y]) 0).run Tryd.prog w = .ok (.int .i64 x) w := by kernel_rfl

@[go_sem] theorem field_place1 (x y : Int) (w : World) : (Instr.field 79 (.agg #[.int .i64 x, .int .i64 y]) 1).run Tryd.prog w = .ok (.int .i64 y) w := by kernel_rfl

section
variable {b ib : Nat} {st : Cur} {w : World}

def Cur.fin (st : Cur) : Cur := if st.more = true then (if st.is .stop = true then st.over else st.fail 7) else st

def Cur.err (st : Cur) : Int × Int × Int := if st.wrong = 0 then (if st.items.isEmpty then (0, 0, 0) else (st.here.1, st.here.2, 7)) else (st.l, st.c, st.wrong)

set_option maxRecDepth 100000 in
theorem Err_calls (h : CS w b ib st) :
    Calls Tryd.prog 23 #[.pointer (some ⟨b, 0, none⟩)] w fun e w' => e = .returned (.tuple #[.int .i64 st.err.1, .int .i64 st.err.2.1, .int .i64 st.err.2.2]) ∧ Keeps (fun _ => False) w w' := by
  by_cases hw : st.wrong = 0
  · have Hm := Lib.hid (more_calls h)
    obtain ⟨A, c, _, h1, _, _, h4, _, _, _⟩ := h.cells
    obtain ⟨its, wrong, l, cc⟩ := st
    simp only at hw h1
    subst hw
    cases its with
    | nil =>
      have e1 : Cur.err ⟨[], 0, l, cc⟩ = (0, 0, 0) := rfl
      have e2 : Cur.more ⟨[], 0, l, cc⟩ = false := rfl
      rw [e1]
      rw [e2] at Hm
      clear h e1 e2
      go_enter Tryd.func23, Tryd.ntmps23
      go_wp2_with (first | (go_at_call 39; refine Hm.out.mono ?_; rintro e w' ⟨rfl, rfl⟩))
      go_ret3
      exact ⟨rfl, Keeps.refl _ _⟩
    | cons y rest =>
      have e1 : Cur.err ⟨y :: rest, 0, l, cc⟩ = (y.line, y.col, 7) := rfl
      have e2 : Cur.more ⟨y :: rest, 0, l, cc⟩ = true := rfl
      rw [e1]
      rw [e2] at Hm
      have H := Lib.hid h
      clear h e1 e2
      go_enter Tryd.func23, Tryd.ntmps23
      go_wp2_with (first | (go_at_call 39; refine Hm.out.mono ?_; rintro e w' ⟨rfl, rfl⟩))
      go_region_with (first | (go_at_call 42; refine (here_calls (H.out.keep0 hkA.out)).mono ?_; rintro e wB ⟨rfl, hk0⟩; have hkB := Lib.hid (hkA.out.trans hk0); clear hk0) | (go_at_call 42; refine (here_calls (H.out.keep0 (Keeps.refl _ _).drew)).mono ?_; rintro e wA ⟨rfl, hk0⟩; have hkA := Lib.hid ((Keeps.refl (fun _ => False) w).drew.trans hk0); clear hk0))
      all_goals
        go_wp2
        go_ret3
        exact ⟨rfl, hkB.out⟩
  · have e1 : st.err = (st.l, st.c, st.wrong) := by simp [Cur.err, hw]
    rw [e1]
    obtain ⟨A, c, _, h1, h2, h3, h4, _, _, _⟩ := h.cells
    have hw1 : (st.wrong == 0) = false := by simpa using hw
    have hw2 : (st.wrong != 0) = true := by simpa using hw
    clear h e1 hw
    go_enter Tryd.func23, Tryd.ntmps23
    go_wp2
    go_quiet (fail)
    go_wp2
    go_ret3
    exact ⟨rfl, (Keeps.refl _ _).drewN _⟩

end
end Go.Proofs.YtfpjdgobannneaaDoor

/-
  The contract of the cursor's Mark (a loop over its signs).
-/
namespace Go.Proofs.YtfpjdgobannneaaDoor
open Go Go.RowKit

def StrsAt (w : World) (sb off : Nat) (ss : List ByteArray) : Prop := ∀ j s, ss[j]? = some s → w.cell? ⟨sb, off + j, none⟩ = some (.string s)

theorem StrsAt.keeps {S : Nat → Prop} {w w' : World} {sb off : Nat} {ss : List ByteArray} (h : StrsAt w sb off ss) (hk : Keeps S w w') (hs : ¬ S sb) : StrsAt w' sb off ss :=
  fun j s hj => hk.cell' (h j s hj) hs

def Cur.sign (st : Cur) (s : ByteArray) : Cur := if st.is (.mark s) = true then st.over else st.fail 7

def Cur.marks (st : Cur) (ss : List ByteArray) : Cur := ss.foldl Cur.sign st

theorem marks_snoc (st : Cur) (ss : List ByteArray) (k : Nat) (s : ByteArray) (h : ss[k]? = some s) : st.marks (ss.take (k + 1)) = (st.marks (ss.take k)).sign s := by
  unfold Cur.marks
  rw [List.take_add_one, h, List.foldl_append]
  rfl

section
variable {b ib : Nat} {st : Cur} {w : World}

theorem CSK.trans {w0 w1 w2 : World} {b ib : Nat} {st1 st2 : Cur} (h : CSK w0 w1 b ib st1) (k : CSK w1 w2 b ib st2) : CSK w0 w2 b ib st2 := ⟨k.1, h.2.trans k.2⟩

end
end Go.Proofs.YtfpjdgobannneaaDoor
