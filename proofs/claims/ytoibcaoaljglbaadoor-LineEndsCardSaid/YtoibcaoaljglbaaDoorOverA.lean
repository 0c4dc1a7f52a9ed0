/-
  The contracts of held, ended, and of the closure that Over hands to CompactFunc.
-/
import Derived.Test.YtoibcaoaljglbaaDoorLineG
import Derived.Test.YtoibcaoaljglbaaDoorWordJ
namespace Go.Proofs.YtoibcaoaljglbaaDoor
open Go Go.RowKit

def Wd.has (x : Wd) : Has := if x.kind = 1 then .name x.text else if x.kind = 2 then .num x.n else if x.kind = 3 then .mark x.text else .stop

theorem held_calls (x : Wd) (w : World) : Calls Tryd.prog 29 #[.agg #[.int .i64 x.kind, .string x.text, .int .i64 x.n, .int .i64 x.line, .int .i64 x.col]] w fun e w' => e = .returned x.has.v ∧ Keeps (fun _ => False) w w' := by
  have hk := Lib.hid (((Keeps.refl (fun _ => False) w).alloc (.cells #[.int .i64 x.kind, .string x.text, .int .i64 x.n, .int .i64 x.line, .int .i64 x.col] 33)))
  obtain ⟨kind, text, n, line, col⟩ := x
  by_cases h1 : kind = 1
  · subst h1
    have e1 : (Wd.has ⟨1, text, n, line, col⟩).v = .iface 79 (.string text) := rfl
    rw [e1]
    go_enter Tryd.func29, Tryd.ntmps29
    go_wp2
    go_ret
    exact ⟨rfl, hk.out⟩
  · have b1 : (kind == 1) = false := by simpa using h1
    by_cases h2 : kind = 2
    · subst h2
      have e1 : (Wd.has ⟨2, text, n, line, col⟩).v = .iface 3 (.int .i64 n) := rfl
      rw [e1]
      go_enter Tryd.func29, Tryd.ntmps29
      go_wp2
      go_ret
      exact ⟨rfl, hk.out⟩
    · have b2 : (kind == 2) = false := by simpa using h2
      by_cases h3 : kind = 3
      · subst h3
        have e1 : (Wd.has ⟨3, text, n, line, col⟩).v = .iface 82 (.string text) := rfl
        rw [e1]
        go_enter Tryd.func29, Tryd.ntmps29
        go_wp2
        go_ret
        exact ⟨rfl, hk.out⟩
      · have b3 : (kind == 3) = false := by simpa using h3
        have e1 : (Wd.has ⟨kind, text, n, line, col⟩).v = .iface 78 (.agg #[]) := by
          simp only [Wd.has, if_neg h1, if_neg h2, if_neg h3]
          rfl
        rw [e1]
        clear h1 h2 h3 e1
        go_enter Tryd.func29, Tryd.ntmps29
        go_wp2
        go_ret
        exact ⟨rfl, hk.out⟩

def Has.isStop : Has → Bool
  | .stop => true
  | _ => false

@[go_sem] theorem Has.assertStop (h : Has) (w : World) :
    (Instr.typeAssert h.v 20 78 true).run Tryd.prog w = .ok (.tuple #[.agg #[], .bool h.isStop]) w := by
  cases h <;> kernel_rfl

@[go_sem] theorem run_store_has {P : Program} {w : World} {a : Addr} {m : Mode} (h : Has) : (store a h.v m).run P w = stored P w a h.v m := run_store P w a _ m (by cases h <;> rfl)

def Item.agg (x : Item) : Value := .agg #[.int .i64 x.line, .int .i64 x.col, x.has.v]

theorem ended_calls (x : Item) (w : World) : Calls Tryd.prog 32 #[.agg #[.int .i64 x.line, .int .i64 x.col, x.has.v]] w fun e w' => e = .returned (.bool x.has.isStop) ∧ Keeps (fun _ => False) w w' := by
  go_enter Tryd.func32, Tryd.ntmps32
  go_wp2
  go_ret
  exact ⟨rfl, ((Keeps.refl _ _).alloc _).alloc _⟩

def twoStops (x y : Item) : Bool := x.has.isStop && y.has.isStop

theorem closure_calls (x y : Item) (w : World) :
    Calls Tryd.prog 31 #[.agg #[.int .i64 x.line, .int .i64 x.col, x.has.v], .agg #[.int .i64 y.line, .int .i64 y.col, y.has.v]] w fun e w' => e = .returned (.bool (twoStops x y)) ∧ Keeps (fun _ => False) w w' := by
  have H1 := Lib.hid (ended_calls x)
  have H2 := Lib.hid (ended_calls y)
  have hA : (((w.alloc (.cells #[.int .i64 x.line, .int .i64 x.col, x.has.v] 70)).alloc (.cells #[.int .i64 y.line, .int .i64 y.col, y.has.v] 70))).heap[w.heap.size + 1]? = some (.cells #[.int .i64 y.line, .int .i64 y.col, y.has.v] 70) := by
    have := blk_new (w.alloc (.cells #[.int .i64 x.line, .int .i64 x.col, x.has.v] 70)) (.cells #[.int .i64 y.line, .int .i64 y.col, y.has.v] 70)
    simpa using this
  have HA := Lib.hid hA
  have HK := Lib.hid (((Keeps.refl (fun _ => False) w).alloc (.cells #[.int .i64 x.line, .int .i64 x.col, x.has.v] 70)).alloc (.cells #[.int .i64 y.line, .int .i64 y.col, y.has.v] 70))
  clear hA
  cases hx : x.has.isStop with
  | false =>
    have e1 : twoStops x y = false := by simp [twoStops, hx]
    rw [e1]
    have hx' := Lib.hid hx
    clear hx e1
    go_enter Tryd.func31, Tryd.ntmps31
    go_wp2_with (first | (go_at_call 32; refine (H1.out _).mono ?_; rw [hx'.out]; rintro e w1 ⟨rfl, hk0⟩; have K1 := Lib.hid (HK.out.trans hk0); clear hk0))
    go_ret
    exact ⟨rfl, K1.out⟩
  | true =>
    have e1 : twoStops x y = y.has.isStop := by simp [twoStops, hx]
    rw [e1]
    have hx' := Lib.hid hx
    clear hx e1
    go_enter Tryd.func31, Tryd.ntmps31
    go_wp2_with (first | (go_at_call 32; have _t := K1.out; refine (H2.out _).mono ?_; rintro e w2 ⟨rfl, hk0⟩; have K2 := Lib.hid (K1.out.trans hk0); clear hk0 K1) | (go_at_call 32; refine (H1.out _).mono ?_; rw [hx'.out]; rintro e w1 ⟨rfl, hk0⟩; have hb := hk0.heap HA.out (by simp); have y0 : w1.cell? ⟨w.heap.size + 1, 0, none⟩ = some (.int .i64 y.line) := (blk_cell hb 0).trans rfl; have y1 : w1.cell? ⟨w.heap.size + 1, 1, none⟩ = some (.int .i64 y.col) := (blk_cell hb 1).trans rfl; have y2 : w1.cell? ⟨w.heap.size + 1, 2, none⟩ = some y.has.v := (blk_cell hb 2).trans rfl; have K1 := Lib.hid (HK.out.trans hk0); clear hk0 hb))
    go_ret
    exact ⟨rfl, K2.out⟩

end Go.Proofs.YtoibcaoaljglbaaDoor
