/-
  The cursor of package line: its state as Lean data (Cur), how it lies in memory (CS), and the contracts of next, over, here, able, More.
-/
import Derived.Test.YtoibcaoaljglbaaDoorProg
import Derived.Test.YtoibcaoaljglbaaDoorMem
namespace Go.Proofs.YtoibcaoaljglbaaDoor
open Go Go.RowKit

/-- what a word has -/
inductive Has where
  | name (s : ByteArray)
  | num (n : Int)
  | mark (s : ByteArray)
  | stop

def Has.v : Has → Value
  | .name s => .iface 79 (.string s)
  | .num n => .iface 3 (.int .i64 n)
  | .mark s => .iface 82 (.string s)
  | .stop => .iface 78 (.agg #[])

def Has.eqb : Has → Has → Bool
  | .name s, .name t => s == t
  | .num n, .num m => n == m
  | .mark s, .mark t => s == t
  | .stop, .stop => true
  | _, _ => false

structure Item where
  line : Int
  col : Int
  has : Has

structure Cur where
  items : List Item
  wrong : Int
  l : Int
  c : Int

/-- the items lie in block ib -/
def RowIn (w : World) (ib : Nat) (A : Option Addr) (its : List Item) : Prop :=
  its ≠ [] → ∃ off, A = some ⟨ib, off, none⟩ ∧ ∀ j x, its[j]? = some x →
    w.cell? ⟨ib, off + 3 * j, none⟩ = some (.int .i64 x.line) ∧ w.cell? ⟨ib, off + 3 * j + 1, none⟩ = some (.int .i64 x.col) ∧ w.cell? ⟨ib, off + 3 * j + 2, none⟩ = some x.has.v

def CurBlk (A : Option Addr) (c : Nat) (st : Cur) : Obj :=
  .cells #[.slice A st.items.length c, .int .i64 st.wrong, .int .i64 st.l, .int .i64 st.c, .bool true] 67 (0, 0)

/-- a cursor that was made lies at block b, its items in block ib -/
def CS (w : World) (b ib : Nat) (st : Cur) : Prop :=
  ∃ A c, w.heap[b]? = some (CurBlk A c st) ∧ st.items.length ≤ c ∧ c ≤ 9223372036854775807 ∧ RowIn w ib A st.items ∧ ib ≠ b

theorem RowIn.keeps {S : Nat → Prop} {w w' : World} {ib : Nat} {A : Option Addr} {its : List Item} (h : RowIn w ib A its) (hk : Keeps S w w') (hs : ¬ S ib) : RowIn w' ib A its := by
  intro hne
  obtain ⟨off, hA, hc⟩ := h hne
  refine ⟨off, hA, fun j x hj => ?_⟩
  obtain ⟨a1, a2, a3⟩ := hc j x hj
  exact ⟨hk.cell' a1 hs, hk.cell' a2 hs, hk.cell' a3 hs⟩

theorem CS.keeps {S : Nat → Prop} {w w' : World} {b ib : Nat} {st : Cur} (h : CS w b ib st) (hk : Keeps S w w') (hs : ¬ S b) (hi : ¬ S ib) : CS w' b ib st := by
  obtain ⟨A, c, hb, hl, hc, hr, hne⟩ := h
  exact ⟨A, c, hk.heap hb hs, hl, hc, hr.keeps hk hi, hne⟩

theorem CS.keep0 {w w' : World} {b ib : Nat} {st : Cur} (h : CS w b ib st) (hk : Keeps (fun _ => False) w w') : CS w' b ib st := h.keeps hk (by simp) (by simp)

section
variable {b ib : Nat} {st : Cur} {w : World}

theorem CS.cells (h : CS w b ib st) : ∃ A c, w.cell? ⟨b, 0, none⟩ = some (.slice A st.items.length c) ∧ w.cell? ⟨b, 1, none⟩ = some (.int .i64 st.wrong) ∧
    w.cell? ⟨b, 2, none⟩ = some (.int .i64 st.l) ∧ w.cell? ⟨b, 3, none⟩ = some (.int .i64 st.c) ∧ w.cell? ⟨b, 4, none⟩ = some (.bool true) ∧
    st.items.length ≤ c ∧ c ≤ 9223372036854775807 ∧ RowIn w ib A st.items := by
  obtain ⟨A, c, hb, hl, hc, hr, _⟩ := h
  exact ⟨A, c, (blk_cell hb 0).trans rfl, (blk_cell hb 1).trans rfl, (blk_cell hb 2).trans rfl, (blk_cell hb 3).trans rfl, (blk_cell hb 4).trans rfl, hl, hc, hr⟩

theorem CS.lt (h : CS w b ib st) : b < w.heap.size := by
  obtain ⟨A, c, hb, _⟩ := h
  exact lt_of_heap hb

def Cur.next (st : Cur) : Option Has := st.items.head?.map (·.has)

def hasV : Option Has → Value
  | some h => h.v
  | none => .nilIface

theorem next_calls (h : CS w b ib st) :
    Calls Tryd.prog 36 #[.pointer (some ⟨b, 0, none⟩)] w fun e w' => e = .returned (hasV st.next) ∧ w = w' := by
  obtain ⟨A, c, h0, _, _, _, _, hl, hc, hr⟩ := h.cells
  obtain ⟨its, wrong, l, cc⟩ := st
  cases its with
  | nil =>
    simp only [List.length_nil] at h0
    clear hr
    go_enter Tryd.func36, Tryd.ntmps36
    go_wp2
    go_ret
    exact ⟨rfl, rfl⟩
  | cons x rest =>
    obtain ⟨off, rfl, hx⟩ := hr (by simp)
    obtain ⟨_, _, a3⟩ := hx 0 x rfl
    clear hx
    have a3' : w.cell? ⟨ib, off + 2, none⟩ = some x.has.v := a3
    clear a3
    simp only [List.length_cons] at h0 hl
    have hpos : ((((rest.length + 1 : Nat) : Int)) == 0) = false := by simp; omega
    go_enter Tryd.func36, Tryd.ntmps36
    go_wp2
    go_ret
    exact ⟨rfl, rfl⟩

end
end Go.Proofs.YtoibcaoaljglbaaDoor
