
/-
  The contracts of held, ended, and of the closure that Over hands to CompactFunc.
-/
import Derived.Test.YtfpjdgobannneaaDoorLineG
import Derived.Test.YtfpjdgobannneaaDoorWordJ
import Derived.Laws.CopyRow
import Derived.Deep.LoopGhost
import Derived.IntWalk
import Derived.Test.YtfpjdgobannneaaDoorWLast
namespace Go.Proofs.YtfpjdgobannneaaDoor
open Go Go.RowKit

def Wd.has (x : Wd) : Has := if x.kind = 1 then .name x.text else if x.kind = 2 then .num x.n else if x.kind = 3 then .mark x.text else .stop

theorem held_calls (x : Wd) (w : World) : Calls Tryd.prog 31 #[.agg #[.int .i64 x.kind, .string x.text, .int .i64 x.n, .int .i64 x.line, .int .i64 x.col]] w fun e w' => e = .returned x.has.v ∧ Keeps (fun _ => False) w w' := by
  have hk := Lib.hid (((Keeps.refl (fun _ => False) w).alloc (.cells #[.int .i64 x.kind, .string x.text, .int .i64 x.n, .int .i64 x.line, .int .i64 x.col] 87)))
  obtain ⟨kind, text, n, line, col⟩ := x
  by_cases h1 : kind = 1
  · subst h1
    have e1 : (Wd.has ⟨1, text, n, line, col⟩).v = .iface 111 (.string text) := rfl
    rw [e1]
    go_enter Tryd.func31, Tryd.ntmps31
    go_wp2
    go_ret
    exact ⟨rfl, hk.out⟩
  · have b1 : (kind == 1) = false := by simpa using h1
    by_cases h2 : kind = 2
    · subst h2
      have e1 : (Wd.has ⟨2, text, n, line, col⟩).v = .iface 3 (.int .i64 n) := rfl
      rw [e1]
      go_enter Tryd.func31, Tryd.ntmps31
      go_wp2
      go_ret
      exact ⟨rfl, hk.out⟩
    · have b2 : (kind == 2) = false := by simpa using h2
      by_cases h3 : kind = 3
      · subst h3
        have e1 : (Wd.has ⟨3, text, n, line, col⟩).v = .iface 112 (.string text) := rfl
        rw [e1]
        go_enter Tryd.func31, Tryd.ntmps31
        go_wp2
        go_ret
        exact ⟨rfl, hk.out⟩
      · have b3 : (kind == 3) = false := by simpa using h3
        have e1 : (Wd.has ⟨kind, text, n, line, col⟩).v = .iface 114 (.agg #[]) := by
          simp only [Wd.has, if_neg h1, if_neg h2, if_neg h3]
          rfl
        rw [e1]
        clear h1 h2 h3 e1
        go_enter Tryd.func31, Tryd.ntmps31
        go_wp2
        go_ret
        exact ⟨rfl, hk.out⟩

def Has.isStop : Has → Bool
  | .stop => true
  | _ => false

@[go_sem] theorem Has.assertStop (h : Has) (w : World) :
    (Instr.typeAssert h.v 20 114 true).run Tryd.prog w = .ok (.tuple #[.agg #[], .bool h.isStop]) w := by
  cases h <;> kernel_rfl

@[go_sem] theorem run_store_has {P : Program} {w : World} {a : Addr} {m : Mode} (h : Has) : (store a h.v m).run P w = stored P w a h.v m := run_store P w a _ m (by cases h <;> rfl)

def Item.agg (x : Item) : Value := .agg #[.int .i64 x.line, .int .i64 x.col, x.has.v]

theorem ended_calls (x : Item) (w : World) : Calls Tryd.prog 34 #[.agg #[.int .i64 x.line, .int .i64 x.col, x.has.v]] w fun e w' => e = .returned (.bool x.has.isStop) ∧ Keeps (fun _ => False) w w' := by
  go_enter Tryd.func34, Tryd.ntmps34
  go_wp2
  go_ret
  exact ⟨rfl, ((Keeps.refl _ _).alloc _).alloc _⟩

def twoStops (x y : Item) : Bool := x.has.isStop && y.has.isStop

theorem closure_calls (x y : Item) (w : World) :
    Calls Tryd.prog 33 #[.agg #[.int .i64 x.line, .int .i64 x.col, x.has.v], .agg #[.int .i64 y.line, .int .i64 y.col, y.has.v]] w fun e w' => e = .returned (.bool (twoStops x y)) ∧ Keeps (fun _ => False) w w' := by
  have H1 := Lib.hid (ended_calls x)
  have H2 := Lib.hid (ended_calls y)
  have hA : (((w.alloc (.cells #[.int .i64 x.line, .int .i64 x.col, x.has.v] 90)).alloc (.cells #[.int .i64 y.line, .int .i64 y.col, y.has.v] 90))).heap[w.heap.size + 1]? = some (.cells #[.int .i64 y.line, .int .i64 y.col, y.has.v] 90) := by
    have := blk_new (w.alloc (.cells #[.int .i64 x.line, .int .i64 x.col, x.has.v] 90)) (.cells #[.int .i64 y.line, .int .i64 y.col, y.has.v] 90)
    simpa using this
  have HA := Lib.hid hA
  have HK := Lib.hid (((Keeps.refl (fun _ => False) w).alloc (.cells #[.int .i64 x.line, .int .i64 x.col, x.has.v] 90)).alloc (.cells #[.int .i64 y.line, .int .i64 y.col, y.has.v] 90))
  clear hA
  cases hx : x.has.isStop with
  | false =>
    have e1 : twoStops x y = false := by simp [twoStops, hx]
    rw [e1]
    have hx' := Lib.hid hx
    clear hx e1
    go_enter Tryd.func33, Tryd.ntmps33
    go_wp2_with (first | (go_at_call 34; refine (H1.out _).mono ?_; rw [hx'.out]; rintro e w1 ⟨rfl, hk0⟩; have K1 := Lib.hid (HK.out.trans hk0); clear hk0))
    go_ret
    exact ⟨rfl, K1.out⟩
  | true =>
    have e1 : twoStops x y = y.has.isStop := by simp [twoStops, hx]
    rw [e1]
    have hx' := Lib.hid hx
    clear hx e1
    go_enter Tryd.func33, Tryd.ntmps33
    go_wp2_with (first | (go_at_call 34; have _t := K1.out; refine (H2.out _).mono ?_; rintro e w2 ⟨rfl, hk0⟩; have K2 := Lib.hid (K1.out.trans hk0); clear hk0 K1) | (go_at_call 34; refine (H1.out _).mono ?_; rw [hx'.out]; rintro e w1 ⟨rfl, hk0⟩; have hb := hk0.heap HA.out (by simp); have y0 : w1.cell? ⟨w.heap.size + 1, 0, none⟩ = some (.int .i64 y.line) := (blk_cell hb 0).trans rfl; have y1 : w1.cell? ⟨w.heap.size + 1, 1, none⟩ = some (.int .i64 y.col) := (blk_cell hb 1).trans rfl; have y2 : w1.cell? ⟨w.heap.size + 1, 2, none⟩ = some y.has.v := (blk_cell hb 2).trans rfl; have K1 := Lib.hid (HK.out.trans hk0); clear hk0 hb))
    go_ret
    exact ⟨rfl, K2.out⟩

end Go.Proofs.YtfpjdgobannneaaDoor

/-
  Rows of items in one block; what CompactFunc keeps of a row (comp): plain laws.
-/
namespace Go.Proofs.YtfpjdgobannneaaDoor
open Go Go.RowKit

/-- item i of a row -/
def ItemAt (cur : Array Value) (i : Nat) (x : Item) : Prop :=
  cur[i * 3]? = some (.int .i64 x.line) ∧ cur[i * 3 + 1]? = some (.int .i64 x.col) ∧ cur[i * 3 + 2]? = some x.has.v

def putItem (cur : Array Value) (k : Nat) (x : Item) : Array Value :=
  ((cur.setIfInBounds (k * 3) (.int .i64 x.line)).setIfInBounds (k * 3 + 1) (.int .i64 x.col)).setIfInBounds (k * 3 + 2) x.has.v

theorem putItem_size (cur : Array Value) (k : Nat) (x : Item) : (putItem cur k x).size = cur.size := by simp [putItem]

theorem putItem_same {cur : Array Value} {k : Nat} (x : Item) (h : k * 3 + 2 < cur.size) : ItemAt (putItem cur k x) k x := by
  unfold putItem ItemAt
  simp only [Array.getElem?_setIfInBounds, Array.size_setIfInBounds]
  refine ⟨?_, ?_, ?_⟩
  · rw [if_neg (by omega), if_neg (by omega), if_pos trivial, if_pos (by omega)]
  · rw [if_neg (by omega), if_pos trivial, if_pos (by omega)]
  · rw [if_pos trivial, if_pos h]

theorem putItem_other {cur : Array Value} {k i : Nat} {x y : Item} (h : ItemAt cur i y) (hne : i ≠ k) : ItemAt (putItem cur k x) i y := by
  unfold putItem ItemAt at *
  simp only [Array.getElem?_setIfInBounds, Array.size_setIfInBounds]
  obtain ⟨h1, h2, h3⟩ := h
  refine ⟨?_, ?_, ?_⟩
  · rw [if_neg (by omega), if_neg (by omega), if_neg (by omega)]
    exact h1
  · rw [if_neg (by omega), if_neg (by omega), if_neg (by omega)]
    exact h2
  · rw [if_neg (by omega), if_neg (by omega), if_neg (by omega)]
    exact h3

/-- a row of ends, one behind the other, is one end -/
def comp : Bool → List Item → List Item
  | _, [] => []
  | p, x :: r => if (p && x.has.isStop) = true then comp true r else x :: comp x.has.isStop r

def lastStop (p : Bool) (l : List Item) : Bool := match l.getLast? with
  | none => p
  | some y => y.has.isStop

theorem lastStop_cons (p : Bool) (y : Item) (r : List Item) : lastStop p (y :: r) = lastStop y.has.isStop r := by
  unfold lastStop
  cases r with
  | nil => rfl
  | cons z t => simp [List.getLast?_cons]

theorem comp_snoc (l : List Item) (x : Item) : ∀ p, comp p (l ++ [x]) = comp p l ++ (if (lastStop p l && x.has.isStop) = true then [] else [x]) := by
  induction l with
  | nil =>
    intro p
    rw [show lastStop p [] = p from rfl]
    by_cases h : (p && x.has.isStop) = true
    · rw [if_pos h]
      simp only [List.nil_append, comp, if_pos h]
    · rw [if_neg h]
      simp only [List.nil_append, comp, if_neg h]
  | cons y r ih =>
    intro p
    rw [lastStop_cons, List.cons_append]
    simp only [comp]
    by_cases h : (p && y.has.isStop) = true
    · rw [if_pos h, if_pos h, ih]
      have : y.has.isStop = true := (Bool.and_eq_true_iff.1 h).2
      rw [this]
    · rw [if_neg h, if_neg h, ih]
      rfl

theorem comp_take_succ (its : List Item) (j : Nat) (x y : Item) (hx : its[j + 1]? = some x) (hy : its[j]? = some y) :
    comp false (its.take (j + 2)) = comp false (its.take (j + 1)) ++ (if twoStops x y = true then [] else [x]) := by
  have e : its.take (j + 2) = its.take (j + 1) ++ [x] := by rw [List.take_add_one, hx]; rfl
  have e2 : its.take (j + 1) = its.take j ++ [y] := by rw [List.take_add_one, hy]; rfl
  rw [e, comp_snoc]
  have : lastStop false (its.take (j + 1)) = y.has.isStop := by rw [e2]; simp [lastStop]
  rw [this]
  have : (y.has.isStop && x.has.isStop) = twoStops x y := by unfold twoStops; exact Bool.and_comm _ _
  rw [this]

theorem comp_take_one (its : List Item) : comp false (its.take 1) = its.take 1 := by
  cases its with
  | nil => rfl
  | cons x r => simp [comp]

theorem comp_length_le (l : List Item) : ∀ p, (comp p l).length ≤ l.length := by
  induction l with
  | nil => intro p; simp [comp]
  | cons x r ih =>
    intro p
    simp only [comp]
    split
    · exact Nat.le_succ_of_le (ih true)
    · exact Nat.succ_le_succ (ih _)

/-- the row of a slice lies in block g, known whole -/
structure RowF (w : World) (g cap : Nat) (cur : Array Value) : Prop where
  blk : w.heap[g]? = some (.cells cur 90 (0, 0))
  size : cur.size = cap * 3

theorem RowF.cell {w : World} {g cap : Nat} {cur : Array Value} (h : RowF w g cap cur) (i : Nat) : w.cell? ⟨g, i, none⟩ = cur[i]? := blk_cell h.blk i

theorem RowF.free {w : World} {g cap : Nat} {cur : Array Value} (h : RowF w g cap cur) (i : Nat) : w.frozen? ⟨g, i, none⟩ = false := blk_free h.blk i

theorem RowF.keep0 {w w' : World} {g cap : Nat} {cur : Array Value} (h : RowF w g cap cur) (hk : Keeps (fun _ => False) w w') : RowF w' g cap cur := ⟨hk.heap h.blk (by simp), h.size⟩

theorem RowF.put {w : World} {g cap : Nat} {cur : Array Value} (h : RowF w g cap cur) (k : Nat) (x : Item) :
    RowF (((w.setCell ⟨g, k * 3, none⟩ (.int .i64 x.line)).setCell ⟨g, k * 3 + 1, none⟩ (.int .i64 x.col)).setCell ⟨g, k * 3 + 2, none⟩ x.has.v) g cap (putItem cur k x) :=
  ⟨blk_set (blk_set (blk_set h.blk _ _) _ _) _ _, by rw [putItem_size]; exact h.size⟩

end Go.Proofs.YtfpjdgobannneaaDoor

/-
  CompactFunc at items: the built-in clear, and the walk.
-/
namespace Go.Proofs.YtfpjdgobannneaaDoor
open Go Go.RowKit

theorem zeros_one (n : Nat) : ∀ v ∈ (Builtin.zeroCells #[.int .i64 0, .int .i64 0, .nilIface] n).toList, v.oneCell' = true := by
  intro v hv
  simp [Builtin.zeroCells] at hv
  obtain ⟨i, _, rfl⟩ := hv
  have h3 : i % 3 = 0 ∨ i % 3 = 1 ∨ i % 3 = 2 := by omega
  rcases h3 with h | h | h <;> simp [h] <;> rfl

theorem zero_item (w : World) : (zeroValue 90).run Tryd.prog w = .ok (.agg #[.int .i64 0, .int .i64 0, .nilIface]) w := by kernel_rfl

theorem clear_items {w : World} {g cap : Nat} {cur : Array Value} (h : RowF w g cap cur) (k m c : Nat) (ty : TypeId) (hk : k + m ≤ cap) (hm : m ≠ 0) :
    ∃ w', (Builtin.clear_ #[75] ty #[.slice (some ⟨g, k * 3, none⟩) m c]).run Tryd.prog w = .ok (.tuple #[]) w' ∧ Keeps (fun i => i = g) w w' ∧
      ∃ cur', RowF w' g cap cur' ∧ ∀ i x, i < k → ItemAt cur i x → ItemAt cur' i x := by
  have hsz := h.size
  have hzs : (Builtin.zeroCells #[.int .i64 0, .int .i64 0, .nilIface] m).toList.length = m * 3 := by
    simp [Builtin.zeroCells]
  have hst := run_storeCells_at Tryd.prog g (k * 3) 90 (Builtin.zeroCells #[.int .i64 0, .int .i64 0, .nilIface] m).toList 0 cur w h.blk (by rw [hzs]; omega) (zeros_one m)
  have hq : ∀ j, j < k * 3 → ((cur.toList.take (k * 3 + 0) ++ (Builtin.zeroCells #[.int .i64 0, .int .i64 0, .nilIface] m).toList ++ cur.toList.drop (k * 3 + 0 + (Builtin.zeroCells #[.int .i64 0, .int .i64 0, .nilIface] m).toList.length)).toArray)[j]? = cur[j]? := by
    intro j hj
    rw [List.getElem?_toArray, List.append_assoc, List.getElem?_append_left (by simp; omega), List.getElem?_take_of_lt (by omega), Array.getElem?_toList]
  have hlen : ((cur.toList.take (k * 3 + 0) ++ (Builtin.zeroCells #[.int .i64 0, .int .i64 0, .nilIface] m).toList ++ cur.toList.drop (k * 3 + 0 + (Builtin.zeroCells #[.int .i64 0, .int .i64 0, .nilIface] m).toList.length)).toArray).size = cap * 3 := by
    simp only [List.size_toArray, List.length_append, List.length_take, List.length_drop, hzs, Array.length_toList]
    omega
  generalize (cur.toList.take (k * 3 + 0) ++ (Builtin.zeroCells #[.int .i64 0, .int .i64 0, .nilIface] m).toList ++ cur.toList.drop (k * 3 + 0 + (Builtin.zeroCells #[.int .i64 0, .int .i64 0, .nilIface] m).toList.length)).toArray = arr at *
  refine ⟨w.setRow g arr, ?_, ⟨rfl, rfl, rfl, by simp, fun i _ hi => setRow_other w g i _ hi⟩, arr, ⟨setRow_heap w g cur _ _ _ h.blk, hlen⟩, ?_⟩
  · obtain ⟨n, rfl⟩ : ∃ n, m = n + 1 := ⟨m - 1, by omega⟩
    have hz : (Value.agg #[.int .i64 0, .int .i64 0, .nilIface]).cells = #[.int .i64 0, .int .i64 0, .nilIface] := rfl
    generalize hzc : (Builtin.zeroCells #[.int .i64 0, .int .i64 0, .nilIface] (n + 1)).toList = zs at hst
    simp [Builtin.clear_, run_underlying Tryd.underlying75, hz, hzc, hst]
  · intro i x hi ⟨h1, h2, h3⟩
    exact ⟨(hq _ (by omega)).trans h1, (hq _ (by omega)).trans h2, (hq _ (by omega)).trans h3⟩

end Go.Proofs.YtfpjdgobannneaaDoor

/-
  The walk of CompactFunc at items.
-/
namespace Go.Proofs.YtfpjdgobannneaaDoor
open Go Go.RowKit

/-- what a call of CompactFunc leaves -/
def CompPost (g cap : Nat) (its : List Item) (w : World) (e : Ending) (w' : World) : Prop :=
  e = .returned (.slice (some ⟨g, 0, none⟩) (comp false its).length cap) ∧ Keeps (fun i => i = g) w w' ∧ ∃ cur', RowF w' g cap cur' ∧ ∀ i x, (comp false its)[i]? = some x → ItemAt cur' i x

/-- the inner loop's relation: j items are gone through, k are kept -/
structure CompAt (g cap : Nat) (its : List Item) (w w' : World) (k j : Nat) : Prop where
  keep : Keeps (fun i => i = g) w w'
  len : k = (comp false (its.take j)).length
  row : ∃ cur, RowF w' g cap cur ∧ (∀ i x, (comp false (its.take j))[i]? = some x → ItemAt cur i x) ∧ ∀ i x, j - 1 ≤ i → its[i]? = some x → ItemAt cur i x

set_option maxRecDepth 100000 in
set_option maxHeartbeats 4000000 in
theorem compact_calls (w : World) (g cap : Nat) (cur : Array Value) (its : List Item) (hrow : RowF w g cap cur) (hit : ∀ i x, its[i]? = some x → ItemAt cur i x) (hlen : its.length ≤ cap) (hcap : cap ≤ 9223372036854775807) :
    Calls Tryd.prog 32 #[.slice (some ⟨g, 0, none⟩) its.length cap, .func (.func 33) #[] #[]] w (CompPost g cap its w) := by
  by_cases h2 : its.length < 2
  · have e1 : comp false its = its := by
      match its, h2 with
      | [], _ => rfl
      | [x], _ => simp [comp]
    have fin := Lib.hid (show CompPost g cap its w (.returned (.slice (some ⟨g, 0, none⟩) its.length cap)) w from by
      unfold CompPost
      rw [e1]
      exact ⟨rfl, Keeps.refl _ _, cur, hrow, hit⟩)
    have b2 : decide ((its.length : Int) < 2) = true := by simp; omega
    clear hrow hit e1 h2
    go_enter Tryd.func32, Tryd.ntmps32
    go_wp2
    go_ret
    exact fin.out
  · have b2 : decide ((its.length : Int) < 2) = false := by simp; omega
    have Hrow := Lib.hid hrow
    have Hit := Lib.hid hit
    have Hst := Lib.hid (comp_take_one its)
    clear hrow hit
    go_enter Tryd.func32, Tryd.ntmps32
    go_wp2
    go_loopw [5] (fun v wr => ∃ k : Nat, 1 ≤ k ∧ k ≤ its.length ∧ v = .int .i64 k ∧ Hid (comp false (its.take k) = its.take k) ∧ Hid (Keeps (fun _ => False) w wr)) (fun v _ => its.length - (intOf v).toNat)
    case atStart => exact ⟨1, Nat.le_refl _, by omega, rfl, Hst, Lib.hid (Keeps.refl _ _)⟩
    case round =>
      obtain ⟨k, hk1, hk2, rfl, Hc, Hk⟩ := hrel
      by_cases hlt : k < its.length
      · have hx : its[k]? = some its[k] := by simp [hlt]
        have hy : its[k - 1]? = some its[k - 1] := by simp
        obtain ⟨x0, x1, x2⟩ := Hit.out k _ hx
        obtain ⟨y0, y1, y2⟩ := Hit.out (k - 1) _ hy
        have hsn := comp_take_succ its (k - 1) its[k] its[k - 1] (by rw [show k - 1 + 1 = k by omega]; exact hx) hy
        rw [show k - 1 + 2 = k + 1 by omega, show k - 1 + 1 = k by omega, Hc.out] at hsn
        have hxk := hx
        generalize its[k] = x at *
        generalize its[k - 1] = y at *
        have hR := Hrow.out.keep0 Hk.out
        have cx0 := (hR.cell (k * 3)).trans x0
        have cx1 := (hR.cell (k * 3 + 1)).trans x1
        have cx2 := (hR.cell (k * 3 + 2)).trans x2
        have cy0 := (hR.cell ((k - 1) * 3)).trans y0
        have cy1 := (hR.cell ((k - 1) * 3 + 1)).trans y1
        have cy2 := (hR.cell ((k - 1) * 3 + 2)).trans y2
        have HR := Lib.hid hR
        clear x0 x1 x2 y0 y1 y2 hR hx hy
        have q1 : IntKind.i64.wrap ((k : Int) - 1) = (k : Int) - 1 := IntWalk.i64_in _ (by omega)
        have q2 : (0 : Int) ≤ (k : Int) - 1 := by omega
        have q2' : (1 : Int) ≤ (k : Int) := by omega
        have q3 : ((k : Int) - 1).toNat = k - 1 := by omega
        have q4 : (k : Int) - 1 < (its.length : Int) := by omega
        cases hts : twoStops x y with
        | false =>
          rw [hts] at hsn
          have Hn := Lib.hid (show comp false (its.take (k + 1)) = its.take (k + 1) from by rw [hsn, if_neg (by decide)]; rw [List.take_add_one, hxk]; rfl)
          have Hts := Lib.hid hts
          clear hsn hts hxk
          go_wp2_with fail
          go_region_with (go_at_call 33; refine (closure_calls x y _).mono ?_; rw [Hts.out]; rintro e w1 ⟨rfl, hk0⟩; have K1 := Lib.hid ((Hk.out.drew).trans hk0); clear hk0)
          all_goals
            clear q1 q2 q2' q3 q4
            go_wp2
            go_roundw
            case rel => exact ⟨k + 1, by omega, by omega, by go_num, Hn, K1⟩
            case measure => simp [intOf]; omega
        | true =>
          rw [hts] at hsn
          have hn : comp false (its.take (k + 1)) = its.take k := by rw [hsn, if_pos rfl, List.append_nil]
          have Hst2 := Lib.hid (fun (w1 : World) (K1 : Keeps (fun _ => False) w w1) => (⟨K1.mono (fun _ _ q => q.elim), by rw [hn]; simp; omega, cur, Hrow.out.keep0 K1, by rw [hn]; intro i z hz; exact Hit.out i z (by rw [List.getElem?_take] at hz; split at hz; exact hz; cases hz), fun i z _ hz => Hit.out i z hz⟩ : CompAt g cap its w w1 k (k + 1)))
          have Hts := Lib.hid hts
          clear hsn hts hn hxk
          go_wp2_with fail
          go_region_with (go_at_call 33; refine (closure_calls x y _).mono ?_; rw [Hts.out]; rintro e w1 ⟨rfl, hk0⟩; have K1 := Lib.hid ((Hk.out.drew).trans hk0); clear hk0)
          all_goals
            clear q1 q2 q2' q3 q4 cx0 cx1 cx2 cy0 cy1 cy2
            have hkc : k ≤ cap := by omega
            have hkc2 : k < cap := by omega
            go_wp2
            clear Hts HR Hk
            go_loopw [5, 7] (fun v5 v7 wi => ∃ kk jj : Nat, v5 = .int .i64 kk ∧ v7 = .int .i64 jj ∧ 1 ≤ jj ∧ k + jj ≤ its.length ∧ kk + 1 ≤ k + jj ∧ Hid (CompAt g cap its w wi kk (k + jj))) (fun _ v7 _ => its.length - (intOf v7).toNat)
            case atStart => exact ⟨k, 1, rfl, rfl, Nat.le_refl _, by omega, by omega, Lib.hid (Hst2.out _ K1.out)⟩
            case round =>
              obtain ⟨kk, jj, rfl, rfl, hj1, hj2, hkk, HA⟩ := hrel
              obtain ⟨cur2, hr2, hpre, hsuf⟩ := HA.out.row
              by_cases hjl : k + jj < its.length
              · have hx : its[k + jj]? = some its[k + jj] := by simp [hjl]
                have hy : its[k + jj - 1]? = some its[k + jj - 1] := by simp
                obtain ⟨x0, x1, x2⟩ := hsuf (k + jj) _ (by omega) hx
                obtain ⟨y0, y1, y2⟩ := hsuf (k + jj - 1) _ (Nat.le_refl _) hy
                have hsn := comp_take_succ its (k + jj - 1) its[k + jj] its[k + jj - 1] (by rw [show k + jj - 1 + 1 = k + jj by omega]; exact hx) hy
                rw [show k + jj - 1 + 2 = k + (jj + 1) by omega, show k + jj - 1 + 1 = k + jj by omega] at hsn
                have hxk := hx
                clear hx hy
                generalize its[k + jj] = x2i at *
                generalize its[k + jj - 1] = y2i at *
                have cx0 := (hr2.cell ((k + jj) * 3)).trans x0
                have cx1 := (hr2.cell ((k + jj) * 3 + 1)).trans x1
                have cx2 := (hr2.cell ((k + jj) * 3 + 2)).trans x2
                have cy0 := (hr2.cell ((k + jj - 1) * 3)).trans y0
                have cy1 := (hr2.cell ((k + jj - 1) * 3 + 1)).trans y1
                have cy2 := (hr2.cell ((k + jj - 1) * 3 + 2)).trans y2
                rw [show (k + jj) * 3 = k * 3 + jj * 3 by omega] at cx0 cx1 cx2
                rw [show (k + jj - 1) * 3 = k * 3 + (jj - 1) * 3 by omega] at cy0 cy1 cy2
                have q1 : IntKind.i64.wrap ((jj : Int) - 1) = (jj : Int) - 1 := IntWalk.i64_in _ (by omega)
                have q2 : (0 : Int) ≤ (jj : Int) - 1 := by omega
                have q2' : (1 : Int) ≤ (jj : Int) := by omega
                have q3 : ((jj : Int) - 1).toNat = jj - 1 := by omega
                have q4 : (jj : Int) - 1 < ((its.length - k : Nat) : Int) := by omega
                have q5 : (jj : Int) < ((its.length - k : Nat) : Int) := by omega
                have q6 : jj < its.length - k := by omega
                have HR2 := Lib.hid hr2
                have HP := Lib.hid hpre
                have HS := Lib.hid hsuf
                have HXK := Lib.hid hxk
                clear x0 x1 x2 y0 y1 y2 hr2 hpre hsuf hxk
                cases hts : twoStops x2i y2i with
                | true =>
                  rw [hts] at hsn
                  have Hn := Lib.hid (show comp false (its.take (k + (jj + 1))) = comp false (its.take (k + jj)) from by rw [hsn, if_pos rfl, List.append_nil])
                  have Hts := Lib.hid hts
                  clear hsn hts
                  go_wp2_with fail
                  go_region_with (go_at_call 33; refine (closure_calls x2i y2i _).mono ?_; rw [Hts.out]; rintro e w2 ⟨rfl, hk0⟩; have K2 := Lib.hid (((Keeps.refl (fun _ => False) wr).drew).trans hk0); clear hk0)
                  all_goals
                    clear q1 q2 q2' q3 q4 q5 cx0 cx1 cx2 cy0 cy1 cy2
                    go_wp2
                    go_roundw
                    case rel => exact ⟨kk, jj + 1, rfl, by go_num, by omega, by omega, by omega, Lib.hid ⟨HA.out.keep.trans (K2.out.mono (fun _ _ q => q.elim)), by rw [Hn.out]; exact HA.out.len, cur2, HR2.out.keep0 K2.out, by rw [Hn.out]; exact HP.out, fun i z hi hz => HS.out i z (by omega) hz⟩⟩
                    case measure => simp [intOf]; omega
                | false =>
                  rw [hts] at hsn
                  have Hn := Lib.hid (show comp false (its.take (k + (jj + 1))) = comp false (its.take (k + jj)) ++ [x2i] from by rw [hsn, if_neg (by decide)])
                  have Hts := Lib.hid hts
                  have r1 : kk < its.length := by omega
                  clear hsn hts
                  go_wp2_with fail
                  go_region_with (go_at_call 33; refine (closure_calls x2i y2i _).mono ?_; rw [Hts.out]; rintro e w2 ⟨rfl, hk0⟩; have K2 := Lib.hid (((Keeps.refl (fun _ => False) wr).drew).trans hk0); have hr3 := HR2.out.keep0 K2.out; have d0 := (hk0.cell (p := ⟨g, k * 3 + jj * 3, none⟩) (lt_of_heap HR2.out.blk) (by simp)).trans cx0; have d1 := (hk0.cell (p := ⟨g, k * 3 + jj * 3 + 1, none⟩) (lt_of_heap HR2.out.blk) (by simp)).trans cx1; have d2 := (hk0.cell (p := ⟨g, k * 3 + jj * 3 + 2, none⟩) (lt_of_heap HR2.out.blk) (by simp)).trans cx2; clear hk0)
                  all_goals
                    clear q1 q2 q2' q3 q4 cx0 cx1 cx2 cy0 cy1 cy2
                    have s3 := HR2.out.size
                    have g0 : ∃ v, w2.cell? ⟨g, kk * 3, none⟩ = some v := ⟨cur2[kk * 3]'(by omega), (hr3.cell _).trans (by simp)⟩
                    have g1 : ∃ v, w2.cell? ⟨g, kk * 3 + 1, none⟩ = some v := ⟨cur2[kk * 3 + 1]'(by omega), (hr3.cell _).trans (by simp)⟩
                    have g2 : ∃ v, w2.cell? ⟨g, kk * 3 + 2, none⟩ = some v := ⟨cur2[kk * 3 + 2]'(by omega), (hr3.cell _).trans (by simp)⟩
                    obtain ⟨v0, g0⟩ := g0
                    obtain ⟨v1, g1⟩ := g1
                    obtain ⟨v2, g2⟩ := g2
                    have f0 := hr3.free (kk * 3)
                    have f1 := hr3.free (kk * 3 + 1)
                    have f2 := hr3.free (kk * 3 + 2)
                    have HR3 := Lib.hid hr3
                    have HLT := Lib.hid (show kk * 3 + 2 < cur2.size from by omega)
                    clear hr3 s3
                    go_wp2
                    go_roundw
                    case rel => exact ⟨kk + 1, jj + 1, by go_num, by go_num, by omega, by omega, by omega, Lib.hid ⟨HA.out.keep.trans ((((K2.out.mono (fun _ _ q => q.elim)).set1 (kk * 3) _).set1 (kk * 3 + 1) _).set1 (kk * 3 + 2) _), by rw [Hn.out, List.length_append, ← HA.out.len]; rfl, putItem cur2 kk x2i, HR3.out.put kk x2i, by
                      rw [Hn.out]
                      intro i z hz
                      by_cases hi : i = kk
                      · subst hi
                        have hz2 : z = x2i := by
                          rw [List.getElem?_append_right (by rw [← HA.out.len]; exact Nat.le_refl _), ← HA.out.len] at hz
                          simpa using hz.symm
                        rw [hz2]
                        exact putItem_same x2i HLT.out
                      · refine putItem_other (HP.out i z ?_) hi
                        have hlt2 : i < (comp false (its.take (k + jj)) ++ [x2i]).length := (List.getElem?_eq_some_iff.1 hz).1
                        rw [List.length_append, ← HA.out.len] at hlt2
                        simp only [List.length_cons, List.length_nil] at hlt2
                        rw [List.getElem?_append_left (by rw [← HA.out.len]; omega)] at hz
                        exact hz, fun i z hi hz => putItem_other (HS.out i z (by omega) hz) (by omega)⟩⟩
                    case measure => simp [intOf]; omega
              · have hj : k + jj = its.length := by omega
                have hq : ¬ (jj : Int) < ((its.length - k : Nat) : Int) := by omega
                have hq2 : its.length - k ≤ jj := by omega
                have hA2 := HA.out
                rw [hj] at hA2
                have hle : kk = (comp false its).length := by have := hA2.len; rwa [List.take_length] at this
                obtain ⟨cur3, hr3, hp3, _⟩ := hA2.row
                rw [List.take_length] at hp3
                obtain ⟨W2, hcl, hk4, cur4, hr4, hp4⟩ := clear_items hr3 kk (its.length - kk) (cap - kk) 0 (by omega) (by omega)
                have Fin := Lib.hid (show CompPost g cap its w (.returned (.slice (some ⟨g, 0, none⟩) kk cap)) W2 from by
                  unfold CompPost
                  refine ⟨by rw [hle], hA2.keep.trans hk4, cur4, hr4, fun i x hi => hp4 i x ?_ (hp3 i x hi)⟩
                  rw [hle]
                  exact (List.getElem?_eq_some_iff.1 hi).1)
                have r1 : kk < its.length := by omega
                have r2 : kk < cap := by omega
                have r3 : kk ≤ its.length := by omega
                have r4 : kk ≤ cap := by omega
                clear hA2 hle hr3 hp3 hk4 hr4 hp4 HA hj hr2 hpre hsuf hjl
                go_wp2
                go_ret
                exact Fin.out
      · have hk : k = its.length := by omega
        subst hk
        have Fin := Lib.hid (show CompPost g cap its w (.returned (.slice (some ⟨g, 0, none⟩) its.length cap)) wr from by
          have hc := Hc.out
          rw [List.take_length] at hc
          unfold CompPost
          rw [hc]
          exact ⟨rfl, Hk.out.mono (fun _ _ q => q.elim), cur, Hrow.out.keep0 Hk.out, Hit.out⟩)
        clear Hc Hst
        go_wp2
        go_ret
        exact Fin.out

end Go.Proofs.YtfpjdgobannneaaDoor

/-
  The loop of Over: words become items.
-/
namespace Go.Proofs.YtfpjdgobannneaaDoor
open Go Go.RowKit

def Wd.item (x : Wd) : Item := ⟨x.line, x.col, x.has⟩

def Item.cells (x : Item) : List Value := [.int .i64 x.line, .int .i64 x.col, x.has.v]

def icells (l : List Item) : List Value := l.flatMap Item.cells

theorem wcells_at (l : List Wd) : ∀ (i : Nat) (x : Wd), l[i]? = some x → (wcells l)[i * 5]? = some (.int .i64 x.kind) ∧ (wcells l)[i * 5 + 1]? = some (.string x.text) ∧ (wcells l)[i * 5 + 2]? = some (.int .i64 x.n) ∧
    (wcells l)[i * 5 + 3]? = some (.int .i64 x.line) ∧ (wcells l)[i * 5 + 4]? = some (.int .i64 x.col) := by
  induction l with
  | nil => intro i x h; simp at h
  | cons y r ih =>
    intro i x h
    cases i with
    | zero =>
      simp at h
      subst h
      exact ⟨rfl, rfl, rfl, rfl, rfl⟩
    | succ i =>
      obtain ⟨h0, h1, h2, h3, h4⟩ := ih i x (by simpa using h)
      have e : ∀ j, (wcells (y :: r))[(i + 1) * 5 + j]? = (wcells r)[i * 5 + j]? := by
        intro j
        show (y.cells ++ wcells r)[(i + 1) * 5 + j]? = _
        rw [List.getElem?_append_right (by show 5 ≤ _; omega)]
        congr 1
        show (i + 1) * 5 + j - 5 = _
        omega
      exact ⟨(e 0).trans h0, (e 1).trans h1, (e 2).trans h2, (e 3).trans h3, (e 4).trans h4⟩

theorem icells_at (l : List Item) : ∀ (i : Nat) (x : Item), l[i]? = some x → (icells l)[i * 3]? = some (.int .i64 x.line) ∧ (icells l)[i * 3 + 1]? = some (.int .i64 x.col) ∧ (icells l)[i * 3 + 2]? = some x.has.v := by
  induction l with
  | nil => intro i x h; simp at h
  | cons y r ih =>
    intro i x h
    cases i with
    | zero =>
      simp at h
      subst h
      exact ⟨rfl, rfl, rfl⟩
    | succ i =>
      obtain ⟨h0, h1, h2⟩ := ih i x (by simpa using h)
      have e : ∀ j, (icells (y :: r))[(i + 1) * 3 + j]? = (icells r)[i * 3 + j]? := by
        intro j
        show (y.cells ++ icells r)[(i + 1) * 3 + j]? = _
        rw [List.getElem?_append_right (by show 3 ≤ _; omega)]
        congr 1
        show (i + 1) * 3 + j - 3 = _
        omega
      exact ⟨(e 0).trans h0, (e 1).trans h1, (e 2).trans h2⟩

theorem Item.one (x : Item) : ∀ u ∈ x.cells, u.oneCell' = true := by
  intro u hu
  simp [Item.cells] at hu
  rcases hu with rfl | rfl | rfl
  · rfl
  · rfl
  · cases x.has <;> rfl

theorem info_item : (Tryd.prog.info? 90).map (fun i => (i.zero, i.size, i.bytes)) = some (some (.agg #[.int .i64 0, .int .i64 0, .nilIface]), 3, 32) := by kernel_rfl

/-- a cell of a word of a row that is owned -/
theorem own_word {w : World} {base : Nat} {wA : Option Addr} {wc : Nat} {l : List Wd} (h : w.ownsRow base 87 5 (.slice wA l.length wc) l.length (wcells l)) {i : Nat} {x : Wd} (hi : l[i]? = some x) :
    ∃ g, wA = some ⟨g, 0, none⟩ ∧ base ≤ g ∧ w.cell? ⟨g, i * 5, none⟩ = some (.int .i64 x.kind) ∧ w.cell? ⟨g, i * 5 + 1, none⟩ = some (.string x.text) ∧ w.cell? ⟨g, i * 5 + 2, none⟩ = some (.int .i64 x.n) ∧
      w.cell? ⟨g, i * 5 + 3, none⟩ = some (.int .i64 x.line) ∧ w.cell? ⟨g, i * 5 + 4, none⟩ = some (.int .i64 x.col) := by
  have hlt : i < l.length := (List.getElem?_eq_some_iff.1 hi).1
  obtain ⟨g, cap, hv, hg, _⟩ := h.form (by omega)
  simp only [Value.slice.injEq] at hv
  obtain ⟨rfl, _, rfl⟩ := hv
  obtain ⟨h0, h1, h2, h3, h4⟩ := wcells_at l i x hi
  have hc := fun j u (hu : (wcells l)[j]? = some u) => h.cells (g := g) rfl j u hu
  have ha : ∀ j, (⟨g, 0, none⟩ : Addr).add j = ⟨g, j, none⟩ := by intro j; unfold Addr.add; split <;> simp_all
  refine ⟨g, rfl, hg, ?_, ?_, ?_, ?_, ?_⟩
  · rw [← ha]; exact hc _ _ h0
  · rw [← ha]; exact hc _ _ h1
  · rw [← ha]; exact hc _ _ h2
  · rw [← ha]; exact hc _ _ h3
  · rw [← ha]; exact hc _ _ h4

/-- the loop's relation: k words are items -/
structure OvAt (w w' : World) (l : List Wd) (wA : Option Addr) (wc : Nat) (its : List Item) (A : Option Addr) (c : Nat) : Prop where
  blk : w'.heap[w.heap.size]? = some (CurBlk A c ⟨its, 0, 0, 0⟩)
  own : w'.ownsRow (w.heap.size + 1) 90 3 (.slice A its.length c) its.length (icells its)
  words : w'.ownsRow (w.heap.size + 1) 87 5 (.slice wA l.length wc) l.length (wcells l)
  keep : Keeps (fun _ => False) w w'

theorem OvAt.keep0 {w w1 w2 : World} {l : List Wd} {wA : Option Addr} {wc : Nat} {its : List Item} {A : Option Addr} {c : Nat} (h : OvAt w w1 l wA wc its A c) (hk : Keeps (fun _ => False) w1 w2) : OvAt w w2 l wA wc its A c :=
  ⟨hk.heap h.blk (by simp), own_keep0 h.own hk, own_keep0 h.words hk, h.keep.trans hk⟩

/-- behind an append to the items, and the store into the cursor -/
theorem OvAt.fin {w w1 w2 : World} {l : List Wd} {wA : Option Addr} {wc : Nat} {its : List Item} {A : Option Addr} {c : Nat} (h : OvAt w w1 l wA wc its A c) (x : Item) {g cap : Nat}
    (hw : w2.ownsRow (w.heap.size + 1) 90 3 (.slice (some ⟨g, 0, none⟩) (its.length + 1) cap) (its.length + 1) (icells its ++ x.cells))
    (hg : w1.grownBy w2 (Value.slice A its.length c).ownBlock) :
    w2.heap[w.heap.size]? = some (CurBlk A c ⟨its, 0, 0, 0⟩) ∧ OvAt w (w2.setCell ⟨w.heap.size, 0, none⟩ (.slice (some ⟨g, 0, none⟩) (its.length + 1) cap)) l wA wc (its ++ [x]) (some ⟨g, 0, none⟩) cap := by
  have hb : w2.heap[w.heap.size]? = some (CurBlk A c ⟨its, 0, 0, 0⟩) := by
    rw [hg.block _ (lt_of_heap h.blk) (fun e => own_ne h.own h.blk (by decide) e.symm)]
    exact h.blk
  refine ⟨hb, ?_, ?_, ?_, ?_⟩
  · have := blk_set hb 0 (.slice (some ⟨g, 0, none⟩) (its.length + 1) cap)
    rw [this]
    simp [CurBlk]
  · have h2 := own_set hw (b := w.heap.size) (own_ne hw hb (by decide)) 0 (.slice (some ⟨g, 0, none⟩) (its.length + 1) cap)
    have e : icells (its ++ [x]) = icells its ++ x.cells := by simp [icells]
    simp only [List.length_append, List.length_cons, List.length_nil]
    rw [e]
    exact h2
  · have h1 := World.ownsRow.kept (w := w1) h.words hg (own_apart h.words h.own (by decide))
    exact own_set h1 (own_ne h.words h.blk (by decide)) 0 _
  · refine Keeps.setCell ?_ (p := ⟨w.heap.size, 0, none⟩) (Or.inr (Nat.le_refl _)) _
    exact h.keep.grown hg (fun k hk => Or.inr (by have := own_ge h.own k hk; omega))

end Go.Proofs.YtfpjdgobannneaaDoor

/-
  The walk of Over.
-/
namespace Go.Proofs.YtfpjdgobannneaaDoor
open Go Go.RowKit Go.Proofs.YtfpjdgobannneaaDoorW.PrintLast
set_option linter.unusedSimpArgs false

def firstStop (l : List Item) : Bool := match l with
  | [] => false
  | x :: _ => x.has.isStop

def overTail (a : List Item) : List Item :=
  if lastStop false (if firstStop a = true then a.tail else a) = true then (if firstStop a = true then a.tail else a).dropLast else (if firstStop a = true then a.tail else a)

def overItems (l : List Wd) : List Item := overTail (comp false (l.map Wd.item))

/-- the cursor over a text -/
def overCur (s : ByteArray) : Cur :=
  if (wordRead s).2.2.2 = 0 then ⟨overItems (wordRead s).1, 0, 0, 0⟩ else ⟨[], (wordRead s).2.2.2, (wordRead s).2.1, (wordRead s).2.2.1⟩

def OverPost (s : ByteArray) (w : World) (e : Ending) (w' : World) : Prop :=
  ∃ b ib, e = .returned (.pointer (some ⟨b, 0, none⟩)) ∧ w.heap.size ≤ b ∧ w.heap.size ≤ ib ∧ CS w' b ib (overCur s) ∧ Keeps (fun _ => False) w w'

theorem wordRead_bad (s : ByteArray) (h : (wordRead s).2.2.2 ≠ 0) : (wordRead s).1 = [] := by
  unfold wordRead at *
  split at h
  · exact absurd rfl h
  · rename_i h2
    rw [if_neg h2]

theorem rdLoop_fits (s : ByteArray) : ∀ (f k : Nat) (st : Rd), k ≤ s.size + 4 → st.Fits k → (rdLoop s f k st).words.length ≤ 2 * (s.size + 4) + 1
  | 0, k, st, hk, h => by
    have := h.words
    show st.words.length ≤ _
    omega
  | f + 1, k, st, hk, h => by
    have hl : ∀ b, (st.look b).words.length ≤ st.words.length + 1 := by
      intro b
      unfold Rd.look
      split
      · have h1 := close_words st
        have h2 : (st.close.fail 6 st.line st.col).words = st.close.words := fail_words _ _ _ _
        rw [h2]
        exact h1
      · omega
    have hw := h.words
    rw [rdLoop]
    split
    · split
      · rename_i h1 h2
        have hlook : st.look (badRune s k (Utf8.decode s k).1) = st := by
          cases hb : badRune s k (Utf8.decode s k).1 with
          | true => rw [hb] at h2; exact absurd h2 (look_bad st)
          | false => rfl
        rw [hlook]
        exact rdLoop_fits s f _ _ (by have := decode_four s k; omega) (go_fits h (decode_pos s k) _)
      · have := hl (badRune s k (Utf8.decode s k).1)
        omega
    · omega

theorem read_len (s : ByteArray) (hs : s.size ≤ 1000000000) : (wordRead s).1.length ≤ 3000000000 := by
  unfold wordRead
  split
  · have h1 := close_words (rdLoop s (s.size + 1) 0 Rd.init)
    have h2 := rdLoop_fits s (s.size + 1) 0 Rd.init (by omega) init_fits
    show (rdAll s).words.length ≤ _
    unfold rdAll
    omega
  · simp

theorem Has.form (h : Has) : ∃ t v, h.v = .iface t v := by cases h <;> exact ⟨_, _, rfl⟩

theorem three_one (a b : Int) (t : TypeId) (v : Value) : ∀ u ∈ [Value.int .i64 a, .int .i64 b, .iface t v], u.oneCell' = true := by
  intro u hu
  simp at hu
  rcases hu with rfl | rfl | rfl <;> rfl

theorem grown_far {w : World} {base : Nat} {e : TypeId} {size : Nat} {v : Value} {n : Nat} {xs : List Value} (h : w.ownsRow base e size v n xs) {b : Nat} {cs : Array Value} {t : TypeId} {fr : Nat × Nat}
    (hb : w.heap[b]? = some (.cells cs t fr)) (ht : t ≠ e) {o : Obj} {w5 : World} (hg : (w.alloc o).grownBy w5 v.ownBlock) : w5.heap[b]? = some (.cells cs t fr) := by
  rw [hg.block b (by have := lt_of_heap hb; simp; omega) (fun q => own_ne h hb ht q.symm)]
  exact blk_alloc hb o

theorem compact_small (w : World) (A : Option Addr) (n c : Nat) (f : Value) (h : n < 2) :
    Calls Tryd.prog 32 #[.slice A n c, f] w fun e w' => e = .returned (.slice A n c) ∧ w = w' := by
  have b2 : decide ((n : Int) < 2) = true := by simp; omega
  clear h
  go_enter Tryd.func32, Tryd.ntmps32
  go_wp2
  go_ret
  exact ⟨rfl, rfl⟩

/-- a row that is owned, as the walk of CompactFunc wants it -/
theorem own_row {w : World} {base : Nat} {A : Option Addr} {c : Nat} {its : List Item} (h : w.ownsRow base 90 3 (.slice A its.length c) its.length (icells its)) (hn : 0 < its.length) :
    ∃ g cur, A = some ⟨g, 0, none⟩ ∧ base ≤ g ∧ RowF w g c cur ∧ its.length ≤ c ∧ c ≤ 9223372036854775807 ∧ ∀ i x, its[i]? = some x → ItemAt cur i x := by
  rcases h.2 with ⟨_, h0⟩ | ⟨g, cap, cur, hv, hg, hb, hle, hm, hs, ht⟩
  · omega
  · simp only [Value.slice.injEq] at hv
    obtain ⟨rfl, _, rfl⟩ := hv
    refine ⟨g, cur, rfl, hg, ⟨hb, hs⟩, hle, hm, fun i x hi => ?_⟩
    obtain ⟨h1, h2, h3⟩ := icells_at its i x hi
    have hlt : i < its.length := (List.getElem?_eq_some_iff.1 hi).1
    have hq : ∀ j, j < its.length * 3 → cur[j]? = (icells its)[j]? := by
      intro j hj
      rw [← ht, List.getElem?_take_of_lt hj, Array.getElem?_toList]
    exact ⟨(hq _ (by omega)).trans h1, (hq _ (by omega)).trans h2, (hq _ (by omega)).trans h3⟩

theorem comp_wrap {w wr : World} {l : List Wd} {wA : Option Addr} {wc : Nat} {its : List Item} {A : Option Addr} {c : Nat} (h : OvAt w wr l wA wc its A c) :
    Calls Tryd.prog 32 #[.slice A its.length c, .func (.func 33) #[] #[]] wr fun e w' => ∃ ib, e = .returned (.slice A (comp false its).length c) ∧ w.heap.size < ib ∧
      w'.heap[w.heap.size]? = some (CurBlk A c ⟨its, 0, 0, 0⟩) ∧ RowIn w' ib A (comp false its) ∧ Keeps (fun _ => False) w w' ∧ its.length ≤ c ∧ c ≤ 9223372036854775807 := by
  rcases Nat.eq_zero_or_pos its.length with h0 | hpos
  · have e0 : its = [] := List.eq_nil_of_length_eq_zero h0
    subst e0
    refine (compact_small wr A 0 c _ (by decide)).mono ?_
    rintro e w' ⟨rfl, rfl⟩
    refine ⟨w.heap.size + 1, rfl, by omega, h.blk, fun hn => absurd rfl hn, h.keep, Nat.zero_le _, ?_⟩
    rcases h.own.2 with ⟨hv, _⟩ | ⟨g, cap, cur, hv, _, _, _, hm, _⟩
    · simp only [Value.slice.injEq] at hv
      omega
    · simp only [Value.slice.injEq] at hv
      obtain ⟨_, _, rfl⟩ := hv
      exact hm
  · obtain ⟨g, cur, rfl, hg, hrow, hle, hm, hit⟩ := own_row h.own hpos
    refine (compact_calls wr g c cur its hrow hit hle hm).mono ?_
    rintro e w' ⟨rfl, hk, cur', hr', hit'⟩
    have hgne : w.heap.size ≠ g := by omega
    refine ⟨g, rfl, by omega, hk.heap h.blk hgne, ?_, h.keep.trans' hk (by omega), hle, hm⟩
    intro _
    refine ⟨0, rfl, fun j x hj => ?_⟩
    obtain ⟨h1, h2, h3⟩ := hit' j x hj
    refine ⟨?_, ?_, ?_⟩
    · rw [show 0 + 3 * j = j * 3 by omega]; exact (hr'.cell _).trans h1
    · rw [show 0 + 3 * j + 1 = j * 3 + 1 by omega]; exact (hr'.cell _).trans h2
    · rw [show 0 + 3 * j + 2 = j * 3 + 2 by omega]; exact (hr'.cell _).trans h3

/-- the last item of a cursor, and the cursor without it -/
theorem CS.last {W : World} {b ib : Nat} {l : List Item} (h : CS W b ib ⟨l, 0, 0, 0⟩) (hl : l ≠ []) :
    ∃ off c y, W.cell? ⟨b, 0, none⟩ = some (.slice (some ⟨ib, off, none⟩) l.length c) ∧ l.getLast? = some y ∧ l.length ≤ c ∧ c ≤ 9223372036854775807 ∧
      W.cell? ⟨ib, off + (l.length - 1) * 3, none⟩ = some (.int .i64 y.line) ∧ W.cell? ⟨ib, off + (l.length - 1) * 3 + 1, none⟩ = some (.int .i64 y.col) ∧ W.cell? ⟨ib, off + (l.length - 1) * 3 + 2, none⟩ = some y.has.v ∧
      ∀ W', Keeps (fun _ => False) W W' → W'.cell? ⟨b, 0, none⟩ = some (.slice (some ⟨ib, off, none⟩) l.length c) ∧ W'.frozen? ⟨b, 0, none⟩ = false ∧
        CS (W'.setCell ⟨b, 0, none⟩ (.slice (some ⟨ib, off, none⟩) (l.length - 1) c)) b ib ⟨l.dropLast, 0, 0, 0⟩ := by
  obtain ⟨A, c, hb, hle, hc, hr, hne⟩ := h
  obtain ⟨off, rfl, hx⟩ := hr hl
  have hpos : 0 < l.length := List.length_pos_iff.2 hl
  have hy : l[l.length - 1]? = some (l.getLast hl) := by
    rw [← List.getLast?_eq_getElem?, List.getLast?_eq_some_getLast hl]
  obtain ⟨h1, h2, h3⟩ := hx _ _ hy
  refine ⟨off, c, l.getLast hl, (blk_cell hb 0).trans rfl, List.getLast?_eq_some_getLast hl, hle, hc, ?_, ?_, ?_, ?_⟩
  · rw [show off + (l.length - 1) * 3 = off + 3 * (l.length - 1) by omega]; exact h1
  · rw [show off + (l.length - 1) * 3 + 1 = off + 3 * (l.length - 1) + 1 by omega]; exact h2
  · rw [show off + (l.length - 1) * 3 + 2 = off + 3 * (l.length - 1) + 2 by omega]; exact h3
  · intro W' hk
    have hb' := hk.heap hb (by simp)
    refine ⟨(blk_cell hb' 0).trans rfl, blk_free hb' 0, some ⟨ib, off, none⟩, c, ?_, ?_, hc, ?_, hne⟩
    · have := blk_set hb' 0 (.slice (some ⟨ib, off, none⟩) (l.length - 1) c)
      rw [this]
      simp [CurBlk]
    · show l.dropLast.length ≤ c
      have hle2 : l.length ≤ c := hle
      rw [List.length_dropLast]
      omega
    · intro _
      refine ⟨off, rfl, fun j z hj => ?_⟩
      have hj2 : l[j]? = some z := by
        change l.dropLast[j]? = some z at hj
        rw [List.getElem?_dropLast] at hj
        split at hj
        · exact hj
        · cases hj
      obtain ⟨a1, a2, a3⟩ := hx j z hj2
      have k1 : Keeps (fun k => k = b) W (W'.setCell ⟨b, 0, none⟩ (.slice (some ⟨ib, off, none⟩) (l.length - 1) c)) := (hk.mono (fun _ _ q => q.elim)).set1 0 _
      exact ⟨k1.cell' a1 hne, k1.cell' a2 hne, k1.cell' a3 hne⟩

theorem overTail_nil : overTail [] = [] := rfl

theorem overTail_eq {a b : List Item} (hb : (if firstStop a = true then a.tail else a) = b) {y : Item} (hy : b.getLast? = some y) : overTail a = if y.has.isStop = true then b.dropLast else b := by
  unfold overTail
  rw [hb]
  have : lastStop false b = y.has.isStop := by unfold lastStop; rw [hy]
  rw [this]

/-- behind CompactFunc and the store: a cursor -/
theorem compact_cs {w w2 : World} {ib : Nat} {its a : List Item} {A : Option Addr} {c : Nat} (hib : w.heap.size < ib) (hb : w2.heap[w.heap.size]? = some (CurBlk A c ⟨its, 0, 0, 0⟩))
    (hr : RowIn w2 ib A a) (hk : Keeps (fun _ => False) w w2) (hlc : its.length ≤ c) (hc : c ≤ 9223372036854775807) (hla : a.length ≤ its.length) :
    CS (w2.setCell ⟨w.heap.size, 0, none⟩ (.slice A a.length c)) w.heap.size ib ⟨a, 0, 0, 0⟩ ∧ Keeps (fun _ => False) w (w2.setCell ⟨w.heap.size, 0, none⟩ (.slice A a.length c)) := by
  refine ⟨⟨A, c, blk_set hb 0 _, by show a.length ≤ c; omega, hc, hr.keeps (keeps1 w2 w.heap.size 0 _) (by omega), by omega⟩, hk.setCell (p := ⟨w.heap.size, 0, none⟩) (Or.inr (Nat.le_refl _)) _⟩

theorem held_eq (x : Wd) (w : World) : Calls Tryd.prog 31 #[.agg #[.int .i64 x.kind, .string x.text, .int .i64 x.n, .int .i64 x.line, .int .i64 x.col]] w fun e w' => e = .returned x.item.has.v ∧ Keeps (fun _ => False) w w' := held_calls x w

set_option maxRecDepth 100000 in
set_option maxHeartbeats 4000000 in
theorem Over_calls (s : ByteArray) (w : World) (hs : s.size ≤ 1000000000) (hG : Glob w) (h8 : 4 ≤ w.heap.size) :
    Calls Tryd.prog 19 #[.string s] w (OverPost s w) := by
  have hA0 : Keeps (fun _ => False) w (w.alloc (.cells #[.slice none 0 0, .int .i64 0, .int .i64 0, .int .i64 0, .bool true] 81)) := (Keeps.refl _ _).alloc _
  have Hread := Lib.hid (read_calls s (w.alloc (.cells #[.slice none 0 0, .int .i64 0, .int .i64 0, .int .i64 0, .bool true] 81)) hs (hG.keeps hA0 (by simp)) (by simp; omega))
  have HA0 := Lib.hid hA0
  clear hG h8 hA0
  by_cases hbad : (wordRead s).2.2.2 = 0
  · have b1 : ((wordRead s).2.2.2 != 0) = false := by simpa using hbad
    have hcur : overCur s = ⟨overItems (wordRead s).1, 0, 0, 0⟩ := by unfold overCur; rw [if_pos hbad]
    have Hcur := Lib.hid hcur
    have hlen : (wordRead s).1.length ≤ 3000000000 := read_len s hs
    clear hbad hcur
    go_enter Tryd.func19, Tryd.ntmps19
    go_wp2_with (first | (go_at_call 30; refine Hread.out.mono ?_; rintro e w1 ⟨wA, wc, rfl, ho, hk⟩; have hb1 : w1.heap[w.heap.size]? = some (CurBlk none 0 ⟨[], 0, 0, 0⟩) := hk.heap (blk_new w _) (by simp); have Ho := Lib.hid ho; have Hk := Lib.hid (HA0.out.trans hk); have Hb1 := Lib.hid hb1; have c1 : w1.cell? ⟨w.heap.size, 1, none⟩ = some (.int .i64 0) := (blk_cell hb1 1).trans rfl; have c2 : w1.cell? ⟨w.heap.size, 2, none⟩ = some (.int .i64 0) := (blk_cell hb1 2).trans rfl; have c3 : w1.cell? ⟨w.heap.size, 3, none⟩ = some (.int .i64 0) := (blk_cell hb1 3).trans rfl; have f1 := blk_free hb1 1; have f2 := blk_free hb1 2; have f3 := blk_free hb1 3; clear ho hk hb1))
    clear c1 c2 c3 f1 f2 f3
    have Hst := Lib.hid (show OvAt w w1 (wordRead s).1 wA wc (((wordRead s).1.take 0).map Wd.item) none 0 from ⟨Hb1.out, World.ownsRow_nil _ _ _ _, by have := Ho.out; simpa using this, Hk.out⟩)
    clear Ho Hk Hb1
    generalize (wordRead s).1 = l at *
    go_loopw [35] (fun v wr => ∃ (k : Nat) (A : Option Addr) (c : Nat), k ≤ l.length ∧ v = .int .i64 k ∧ Hid (OvAt w wr l wA wc ((l.take k).map Wd.item) A c)) (fun v _ => l.length - (intOf v).toNat)
    case atStart => exact ⟨0, none, 0, Nat.zero_le _, rfl, Hst⟩
    case round =>
      obtain ⟨k, A, c, hk, rfl, HA⟩ := hrel
      clear Hst
      by_cases hlt : k < l.length
      · have hx : l[k]? = some l[k] := by simp [hlt]
        obtain ⟨g, rfl, hg, x0, x1, x2, x3, x4⟩ := own_word HA.out.words hx
        have e2 : (l.take (k + 1)).map Wd.item = (l.take k).map Wd.item ++ [l[k].item] := by rw [List.take_add_one, hx, List.map_append]; rfl
        have E2 := Lib.hid e2
        have hil : ((l.take k).map Wd.item).length ≤ 3000000000 := by simp; omega
        clear e2 hx
        generalize l[k] = x at *
        generalize (l.take k).map Wd.item = its at *
        have n0 : wr.cell? ⟨w.heap.size, 0, none⟩ = some (.slice A its.length c) := (blk_cell HA.out.blk 0).trans rfl
        have nlt := lt_of_heap HA.out.blk
        obtain ⟨ht, hv, hhv0⟩ := x.item.has.form
        have hcells := Lib.hid (show x.item.cells = [.int .i64 x.line, .int .i64 x.col, .iface ht hv] from by
          show [.int .i64 x.line, .int .i64 x.col, x.item.has.v] = _
          rw [hhv0])
        have hhv := Lib.hid hhv0
        clear hhv0
        obtain ⟨i0, hi, hz0, hz1, hz2⟩ := info_parts info_item
        go_wp2_with fail
        refine start_ (n := 20) (S := (fun w' => w'.cell? ⟨w.heap.size, 0, none⟩ = some (.slice A its.length c) ∧ w'.cell? ⟨wr.heap.size, 0, none⟩ = some (.int .i64 x.kind) ∧ w'.cell? ⟨wr.heap.size, 1, none⟩ = some (.string x.text) ∧ w'.cell? ⟨wr.heap.size, 2, none⟩ = some (.int .i64 x.n) ∧ w'.cell? ⟨wr.heap.size, 3, none⟩ = some (.int .i64 x.line) ∧ w'.cell? ⟨wr.heap.size, 4, none⟩ = some (.int .i64 x.col))) (ds := [19]) #[false, false, false, false, false, false, false, false, false, false, false, false, false, false, false, false, false, false, false, false] (by kernel_rfl) rfl rfl ⟨(blk_cell (blk_drew (blk_alloc HA.out.blk _)) 0).trans rfl, (blk_cell (blk_drew (blk_new wr (.cells #[.int .i64 x.kind, .string x.text, .int .i64 x.n, .int .i64 x.line, .int .i64 x.col] 87))) 0).trans rfl, (blk_cell (blk_drew (blk_new wr (.cells #[.int .i64 x.kind, .string x.text, .int .i64 x.n, .int .i64 x.line, .int .i64 x.col] 87))) 1).trans rfl, (blk_cell (blk_drew (blk_new wr (.cells #[.int .i64 x.kind, .string x.text, .int .i64 x.n, .int .i64 x.line, .int .i64 x.col] 87))) 2).trans rfl, (blk_cell (blk_drew (blk_new wr (.cells #[.int .i64 x.kind, .string x.text, .int .i64 x.n, .int .i64 x.line, .int .i64 x.col] 87))) 3).trans rfl, (blk_cell (blk_drew (blk_new wr (.cells #[.int .i64 x.kind, .string x.text, .int .i64 x.n, .int .i64 x.line, .int .i64 x.col] 87))) 4).trans rfl⟩ (fun hHeld => ?_)
        refine pure_ (i := 0) (N := some 39) (v := ?_) (a' := ?_) #[true, false, false, false, false, false, false, false, false, false, false, false, false, false, false, false, false, false, false, false] rfl rfl (by kernel_rfl) (fun _ _ _ h => h) (Or.inl ⟨by rfl, ?_⟩) ?_ ?_
        rotate_left
        · intro w'
          go_simp
          with_reducible rfl
        rotate_left
        · simp only [Act.put, List.setIfInBounds_toArray, List.set_cons_zero, List.set_cons_succ]
          rfl
        refine pure_ (i := 1) (N := some 40) (v := ?_) (a' := ?_) #[true, true, false, false, false, false, false, false, false, false, false, false, false, false, false, false, false, false, false, false] rfl rfl (by kernel_rfl) (fun _ _ _ h => h) (Or.inl ⟨by rfl, ?_⟩) ?_ ?_
        rotate_left
        · intro w'
          go_simp
          with_reducible rfl
        rotate_left
        · simp only [Act.put, List.setIfInBounds_toArray, List.set_cons_zero, List.set_cons_succ]
          rfl
        refine pure_ (i := 2) (N := some 41) (v := ?_) (a' := ?_) #[true, true, true, false, false, false, false, false, false, false, false, false, false, false, false, false, false, false, false, false] rfl rfl (by kernel_rfl) (fun _ _ _ h => h) (Or.inl ⟨by rfl, ?_⟩) ?_ ?_
        rotate_left
        · intro w'
          go_simp
          with_reducible rfl
        rotate_left
        · simp only [Act.put, List.setIfInBounds_toArray, List.set_cons_zero, List.set_cons_succ]
          rfl
        refine pure_ (i := 3) (N := some 42) (v := ?_) (a' := ?_) #[true, true, true, true, false, false, false, false, false, false, false, false, false, false, false, false, false, false, false, false] rfl rfl (by kernel_rfl) (fun _ _ _ h => h) (Or.inl ⟨by rfl, ?_⟩) ?_ ?_
        rotate_left
        · intro w'
          go_simp
          with_reducible rfl
        rotate_left
        · simp only [Act.put, List.setIfInBounds_toArray, List.set_cons_zero, List.set_cons_succ]
          rfl
        refine pure_ (i := 4) (N := some 43) (v := ?_) (a' := ?_) #[true, true, true, true, true, false, false, false, false, false, false, false, false, false, false, false, false, false, false, false] rfl rfl (by kernel_rfl) (fun _ _ _ h => h) (Or.inl ⟨by rfl, ?_⟩) ?_ ?_
        rotate_left
        · intro w'
          go_simp
          with_reducible rfl
        rotate_left
        · simp only [Act.put, List.setIfInBounds_toArray, List.set_cons_zero, List.set_cons_succ]
          rfl
        refine take_ (i := 5) (N := some 44) (v := ?_) (a' := ?_) #[true, true, true, true, true, true, false, false, false, false, false, false, false, false, false, false, false, false, false, false] rfl rfl (by kernel_rfl) (fun _ _ _ h => h) (Or.inl ⟨by rfl, ?_⟩) hHeld ?_ ?_
        rotate_left
        · intro w' hSw
          obtain ⟨hs0, hs1, hs2, hs3, hs4, hs5⟩ := hSw
          go_simp
          with_reducible rfl
        rotate_left
        · simp only [Act.put, List.setIfInBounds_toArray, List.set_cons_zero, List.set_cons_succ]
          rfl
        refine pure_ (i := 6) (N := some 45) (v := ?_) (a' := ?_) #[true, true, true, true, true, true, true, false, false, false, false, false, false, false, false, false, false, false, false, false] rfl rfl (by kernel_rfl) (fun _ _ _ h => h) (Or.inl ⟨by rfl, ?_⟩) ?_ ?_
        rotate_left
        · intro w'
          go_simp
          with_reducible rfl
        rotate_left
        · simp only [Act.put, List.setIfInBounds_toArray, List.set_cons_zero, List.set_cons_succ]
          rfl
        refine take_ (i := 7) (N := some 46) (v := ?_) (a' := ?_) #[true, true, true, true, true, true, true, true, false, false, false, false, false, false, false, false, false, false, false, false] rfl rfl (by kernel_rfl) (fun _ _ _ h => h) (Or.inl ⟨by rfl, ?_⟩) hHeld ?_ ?_
        rotate_left
        · intro w' hSw
          obtain ⟨hs0, hs1, hs2, hs3, hs4, hs5⟩ := hSw
          go_simp
          with_reducible rfl
        rotate_left
        · simp only [Act.put, List.setIfInBounds_toArray, List.set_cons_zero, List.set_cons_succ]
          rfl
        refine pure_ (i := 8) (N := some 47) (v := ?_) (a' := ?_) #[true, true, true, true, true, true, true, true, true, false, false, false, false, false, false, false, false, false, false, false] rfl rfl (by kernel_rfl) (fun _ _ _ h => h) (Or.inl ⟨by rfl, ?_⟩) ?_ ?_
        rotate_left
        · intro w'
          go_simp
          with_reducible rfl
        rotate_left
        · simp only [Act.put, List.setIfInBounds_toArray, List.set_cons_zero, List.set_cons_succ]
          rfl
        refine take_ (i := 9) (N := some 48) (v := ?_) (a' := ?_) #[true, true, true, true, true, true, true, true, true, true, false, false, false, false, false, false, false, false, false, false] rfl rfl (by kernel_rfl) (fun _ _ _ h => h) (Or.inl ⟨by rfl, ?_⟩) hHeld ?_ ?_
        rotate_left
        · intro w' hSw
          obtain ⟨hs0, hs1, hs2, hs3, hs4, hs5⟩ := hSw
          go_simp
          with_reducible rfl
        rotate_left
        · simp only [Act.put, List.setIfInBounds_toArray, List.set_cons_zero, List.set_cons_succ]
          rfl
        refine pure_ (i := 10) (N := some 49) (v := ?_) (a' := ?_) #[true, true, true, true, true, true, true, true, true, true, true, false, false, false, false, false, false, false, false, false] rfl rfl (by kernel_rfl) (fun _ _ _ h => h) (Or.inl ⟨by rfl, ?_⟩) ?_ ?_
        rotate_left
        · intro w'
          go_simp
          with_reducible rfl
        rotate_left
        · simp only [Act.put, List.setIfInBounds_toArray, List.set_cons_zero, List.set_cons_succ]
          rfl
        refine take_ (i := 11) (N := some 50) (v := ?_) (a' := ?_) #[true, true, true, true, true, true, true, true, true, true, true, true, false, false, false, false, false, false, false, false] rfl rfl (by kernel_rfl) (fun _ _ _ h => h) (Or.inl ⟨by rfl, ?_⟩) hHeld ?_ ?_
        rotate_left
        · intro w' hSw
          obtain ⟨hs0, hs1, hs2, hs3, hs4, hs5⟩ := hSw
          go_simp
          with_reducible rfl
        rotate_left
        · simp only [Act.put, List.setIfInBounds_toArray, List.set_cons_zero, List.set_cons_succ]
          rfl
        refine one_ (i := 12) (N := some 51) #[true, true, true, true, true, true, true, true, true, true, true, true, true, false, false, false, false, false, false, false] rfl rfl (by kernel_rfl) (by decide) (fun K hK => ?_)
        refine goes_ (f := 31) Tryd.func31 (by kernel_rfl) rfl #[.agg #[.int .i64 x.kind, .string x.text, .int .i64 x.n, .int .i64 x.line, .int .i64 x.col]] (by rfl) rfl rfl (by simp only [List.map_toArray, List.map_cons, List.map_nil]; rfl) ?_
        refine (held_eq x _).mono ?_
        rw [hhv.out]
        rintro e w3 ⟨rfl, hk0⟩
        refine ⟨_, rfl, ?_⟩
        have hA3 := HA.out.keep0 ((((Keeps.refl (fun _ => False) wr).alloc _).drew).trans hk0)
        have hbx := hk0.heap (blk_drew (blk_new wr (.cells #[.int .i64 x.kind, .string x.text, .int .i64 x.n, .int .i64 x.line, .int .i64 x.col] 87))) (by simp)
        refine hK.out _ _ ⟨(blk_cell hA3.blk 0).trans rfl, (blk_cell hbx 0).trans rfl, (blk_cell hbx 1).trans rfl, (blk_cell hbx 2).trans rfl, (blk_cell hbx 3).trans rfl, (blk_cell hbx 4).trans rfl⟩ (fun hHeld => ?_)
        clear hK K
        refine norm_ (a' := ?na12) ?nb12 ?nc12
        case nb12 =>
          simp only [Act.put, List.setIfInBounds_toArray, List.set_cons_zero, List.set_cons_succ]
          rfl
        refine pure_ (i := 13) (N := some 52) (v := ?_) (a' := ?_) #[true, true, true, true, true, true, true, true, true, true, true, true, true, true, false, false, false, false, false, false] rfl rfl (by kernel_rfl) (fun _ _ _ h => h) (Or.inl ⟨by rfl, ?_⟩) ?_ ?_
        rotate_left
        · intro w'
          go_simp
          with_reducible rfl
        rotate_left
        · simp only [Act.put, List.setIfInBounds_toArray, List.set_cons_zero, List.set_cons_succ]
          rfl
        refine one_ (i := 14) (N := some 53) #[true, true, true, true, true, true, true, true, true, true, true, true, true, true, true, false, false, false, false, false] rfl rfl (by kernel_rfl) (by decide) (fun K hK => ?_)
        refine value_ (v := .slice (some ⟨w3.heap.size, 0, none⟩) 1 1) (w1 := w3.alloc (.cells #[.int .i64 x.line, .int .i64 x.col, .iface ht hv] 90)) (by rfl) rfl (by go_simp) ?_
        refine hK.out _ _ ⟨(blk_cell (blk_alloc hA3.blk _) 0).trans rfl, (blk_cell (blk_alloc hbx _) 0).trans rfl, (blk_cell (blk_alloc hbx _) 1).trans rfl, (blk_cell (blk_alloc hbx _) 2).trans rfl, (blk_cell (blk_alloc hbx _) 3).trans rfl, (blk_cell (blk_alloc hbx _) 4).trans rfl⟩ (fun hHeld => ?_)
        clear hK K
        refine norm_ (a' := ?na14) ?nb14 ?nc14
        case nb14 =>
          simp only [Act.put, List.setIfInBounds_toArray, List.set_cons_zero, List.set_cons_succ]
          rfl
        refine one_ (i := 15) (N := some 54) #[true, true, true, true, true, true, true, true, true, true, true, true, true, true, true, true, false, false, false, false] rfl rfl (by kernel_rfl) (by decide) (fun K hK => ?_)
        refine step_append_lies _ (by rfl) (.tmp 44) (.tmp 53) 75 (by rfl) (w.heap.size + 1) 90 i0 (.agg #[.int .i64 0, .int .i64 0, .nilIface]) 3 32 Tryd.underlying75 hi hz0 hz1 hz2 rfl (by decide) (.slice A its.length c) its.length (icells its) (by rfl) (hA3.own.alloc _) ⟨w3.heap.size, 0, none⟩ 1 1 [.int .i64 x.line, .int .i64 x.col, .iface ht hv] (by rfl) (by rfl) (World.news_of_block (blk_new w3 _)) (three_one _ _ _ _) (by decide) (by unfold maxLen; omega) (by omega) (by have := lt_of_heap hA3.blk; simp; omega) (w3.heap.size + 1) (by simp) ?_
        intro g2 cap2 w5 hw1 hw2 hw3 hw4
        rw [← hcells.out] at hw1
        obtain ⟨hb5, hfin⟩ := OvAt.fin (hA3.keep0 ((Keeps.refl _ w3).alloc _)) x.item hw1 hw2
        have hbx5 := grown_far hA3.own hbx (by decide) hw2
        refine hK.out _ _ ⟨(blk_cell hb5 0).trans rfl, (blk_cell hbx5 0).trans rfl, (blk_cell hbx5 1).trans rfl, (blk_cell hbx5 2).trans rfl, (blk_cell hbx5 3).trans rfl, (blk_cell hbx5 4).trans rfl⟩ (fun hHeld => ?_)
        clear hK K
        refine norm_ (a' := ?na15) ?nb15 ?nc15
        case nb15 =>
          simp only [Act.put, List.setIfInBounds_toArray, List.set_cons_zero, List.set_cons_succ]
          rfl
        refine pure_ (i := 16) (N := some 55) (v := ?_) (a' := ?_) #[true, true, true, true, true, true, true, true, true, true, true, true, true, true, true, true, true, false, false, false] rfl rfl (by kernel_rfl) (fun _ _ _ h => h) (Or.inl ⟨by rfl, ?_⟩) ?_ ?_
        rotate_left
        · intro w'
          go_simp
          with_reducible rfl
        rotate_left
        · simp only [Act.put, List.setIfInBounds_toArray, List.set_cons_zero, List.set_cons_succ]
          rfl
        refine pure_ (i := 17) (N := some 56) (v := ?_) (a' := ?_) #[true, true, true, true, true, true, true, true, true, true, true, true, true, true, true, true, true, true, false, false] rfl rfl (by kernel_rfl) (fun _ _ _ h => h) (Or.inl ⟨by rfl, ?_⟩) ?_ ?_
        rotate_left
        · intro w'
          go_simp
          with_reducible rfl
        rotate_left
        · simp only [Act.put, List.setIfInBounds_toArray, List.set_cons_zero, List.set_cons_succ]
          rfl
        refine pure_ (i := 18) (N := some 57) (v := ?_) (a' := ?_) #[true, true, true, true, true, true, true, true, true, true, true, true, true, true, true, true, true, true, true, false] rfl rfl (by kernel_rfl) (fun _ _ _ h => h) (Or.inl ⟨by rfl, ?_⟩) ?_ ?_
        rotate_left
        · intro w'
          go_simp
          with_reducible rfl
        rotate_left
        · simp only [Act.put, List.setIfInBounds_toArray, List.set_cons_zero, List.set_cons_succ]
          rfl
        refine last_ (i := 19) (N := none) #[true, true, true, true, true, true, true, true, true, true, true, true, true, true, true, true, true, true, true, true] rfl rfl (by kernel_rfl) (by decide) (fun K hK => ?_)
        have q0 : w5.cell? ⟨w.heap.size, 0, none⟩ = some (.slice A its.length c) := (blk_cell hb5 0).trans rfl
        have f0 := blk_free hb5 0
        refine skip_ (w1 := w5.setCell ⟨w.heap.size, 0, none⟩ (.slice (some ⟨g2, 0, none⟩) (its.length + 1) cap2)) (by rfl) rfl (by go_simp) ?_
        refine hK.out _ _ ?_
        have HF := Lib.hid hfin
        clear hK K
        refine done_ (by kernel_rfl) ?_
        clear hHeld hw1 hw2 hw3 hw4 hb5 hfin hbx5 q0 f0 hA3 hbx hk0
        clear x0 x1 x2 x3 x4 n0
        go_wp2
        go_roundw
        case rel => exact ⟨k + 1, _, _, by omega, by go_num, Lib.hid (by rw [E2.out]; exact HF.out)⟩
        case measure => simp [intOf]; omega
      · have hkl : k = l.length := by omega
        subst hkl
        have HA1 := HA.out
        rw [List.take_length] at HA1
        have HB := Lib.hid HA1
        clear HA1 HA
        have hil : (l.map Wd.item).length ≤ 3000000000 := by rw [List.length_map]; exact hlen
        have n0 : wr.cell? ⟨w.heap.size, 0, none⟩ = some (.slice A (l.map Wd.item).length c) := (blk_cell HB.out.blk 0).trans rfl
        have Hcw := Lib.hid (comp_wrap HB.out)
        have Hits := Lib.hid (show ∀ a, comp false (l.map Wd.item) = a → overItems l = overTail a from by intro a h; subst h; rfl)
        generalize l.map Wd.item = its at *
        have Hla0 : (comp false its).length ≤ its.length := comp_length_le _ _
        generalize comp false its = a at *
        have Hla := Lib.hid Hla0
        have hot := Hits.out a rfl
        clear Hits
        cases a with
        | nil =>
          have E3 := Lib.hid (hot.trans overTail_nil)
          clear hot Hla0
          have Hcw := Lib.hid (show _ from Hcw.out)
          go_wp2_with (first | (go_at_call 32; refine Hcw.out.mono ?_; rintro e w2 ⟨ib, rfl, hib, hb2, hr2, hk2, hlc, hc2⟩; have m0 : w2.cell? ⟨w.heap.size, 0, none⟩ = some (.slice A its.length c) := (blk_cell hb2 0).trans rfl; have f0 := blk_free hb2 0; obtain ⟨hcs2, hkw2⟩ := compact_cs hib hb2 hr2 hk2 hlc hc2 (by have := Hla.out; omega); have HCS2 := Lib.hid hcs2; have HKW2 := Lib.hid hkw2; have Hib := Lib.hid (show w.heap.size ≤ ib from by omega); clear hb2 hr2 hk2 hlc hc2 hcs2 hkw2 hib))
          go_ret
          refine ⟨w.heap.size, ib, rfl, Nat.le_refl _, Hib.out, ?_, HKW2.out⟩
          rw [Hcur.out, E3.out]
          exact HCS2.out
        | cons x r =>
          cases hx : x.has.isStop with
          | true =>
            have hb : (if firstStop (x :: r) = true then (x :: r).tail else (x :: r)) = r := by simp only [firstStop, hx, if_true, List.tail_cons]
            have Hx := Lib.hid hx
            clear hx
            rcases List.eq_nil_or_concat r with rfl | ⟨r', y, hr⟩
            · have E3 := Lib.hid (hot.trans (show overTail [x] = [] from by unfold overTail; rw [hb]; rfl))
              clear hot Hla0 hb
              have q5 : (0 : Int) < (([x] : List Item).length : Int) := by simp
              go_wp2_with (first | (go_at_call 32; refine Hcw.out.mono ?_; rintro e w2 ⟨ib, rfl, hib, hb2, hr2, hk2, hlc, hc2⟩; have m0 : w2.cell? ⟨w.heap.size, 0, none⟩ = some (.slice A its.length c) := (blk_cell hb2 0).trans rfl; have f0 := blk_free hb2 0; obtain ⟨hcs2, hkw2⟩ := compact_cs hib hb2 hr2 hk2 hlc hc2 (by have := Hla.out; omega); obtain ⟨off, rfl, hx0⟩ := hr2 (by simp); obtain ⟨xa, xb, xc⟩ := hx0 0 x rfl; have x0 : w2.cell? ⟨ib, off, none⟩ = some (.int .i64 x.line) := xa; have x1 : w2.cell? ⟨ib, off + 1, none⟩ = some (.int .i64 x.col) := xb; have x2 : w2.cell? ⟨ib, off + 2, none⟩ = some x.has.v := xc; have n1 : ¬ ib = w.heap.size := (by omega); have n2 : ¬ w.heap.size = ib := (by omega); clear hx0 xa xb xc; have HCS2 := Lib.hid hcs2; have HKW2 := Lib.hid hkw2; have Hib := Lib.hid (show w.heap.size ≤ ib from by omega); clear hb2 hr2 hk2 hlc hc2 hcs2 hkw2 hib) | (go_at_call 34; have _t1 := HCS2.out; refine (ended_calls x _).mono ?_; rw [Hx.out]; rintro e w4 ⟨rfl, hk4⟩; have HCS4 := Lib.hid (HCS2.out.keep0 hk4); have HKW4 := Lib.hid (HKW2.out.trans hk4); clear hk4 HCS2 HKW2) | (go_at_call 35; refine (over_calls HCS4.out (by simp)).mono ?_; rintro e w5 ⟨rfl, hcs5, hk5⟩; have HCS5 := Lib.hid (show CS w5 w.heap.size ib ⟨[], 0, 0, 0⟩ from hcs5); have HKW5 := Lib.hid (HKW4.out.trans' hk5 (by omega)); obtain ⟨A5, c5, q5, _⟩ := HCS5.out.cells; have o0 : w5.cell? ⟨w.heap.size, 0, none⟩ = some (.slice A5 0 c5) := q5; clear q5; clear hcs5 hk5))
              go_ret
              refine ⟨w.heap.size, ib, rfl, Nat.le_refl _, Hib.out, ?_, HKW5.out⟩
              rw [Hcur.out, E3.out]
              exact HCS5.out
            · have Hr := Lib.hid (show r ≠ [] from by rw [hr]; simp)
              have HY := Lib.hid (show r.getLast? = some y from by rw [hr]; simp)
              have hlen2 : 0 < r.length := List.length_pos_iff.2 Hr.out
              have hrl : r.length ≤ 3000000000 := by simp only [List.length_cons] at Hla0; omega
              have E3 := Lib.hid (hot.trans (overTail_eq hb HY.out))
              clear hot Hla0 hb hr
              have q1 : IntKind.i64.wrap ((r.length : Int) - 1) = (r.length : Int) - 1 := IntWalk.i64_in _ (by omega)
              have q2 : (0 : Int) ≤ (r.length : Int) - 1 := by omega
              have q2' : (1 : Int) ≤ (r.length : Int) := by omega
              have q3 : ((r.length : Int) - 1).toNat = r.length - 1 := by omega
              have q4 : (r.length : Int) - 1 < (r.length : Int) := by omega
              have q5 : (0 : Int) < (r.length : Int) := by omega
              have q6 : (0 : Int) < ((x :: r).length : Int) := by simp
              cases hys : y.has.isStop with
              | true =>
                have HYS := Lib.hid hys
                have E4 := Lib.hid (E3.out.trans (if_pos hys))
                clear hys
                go_wp2_with (first | (go_at_call 32; refine Hcw.out.mono ?_; rintro e w2 ⟨ib, rfl, hib, hb2, hr2, hk2, hlc, hc2⟩; have m0 : w2.cell? ⟨w.heap.size, 0, none⟩ = some (.slice A its.length c) := (blk_cell hb2 0).trans rfl; have f0 := blk_free hb2 0; obtain ⟨hcs2, hkw2⟩ := compact_cs hib hb2 hr2 hk2 hlc hc2 (by have := Hla.out; omega); obtain ⟨off, rfl, hx0⟩ := hr2 (by simp); obtain ⟨xa, xb, xc⟩ := hx0 0 x rfl; have x0 : w2.cell? ⟨ib, off, none⟩ = some (.int .i64 x.line) := xa; have x1 : w2.cell? ⟨ib, off + 1, none⟩ = some (.int .i64 x.col) := xb; have x2 : w2.cell? ⟨ib, off + 2, none⟩ = some x.has.v := xc; have n1 : ¬ ib = w.heap.size := (by omega); have n2 : ¬ w.heap.size = ib := (by omega); clear hx0 xa xb xc; have HCS2 := Lib.hid hcs2; have HKW2 := Lib.hid hkw2; have Hib := Lib.hid (show w.heap.size ≤ ib from by omega); clear hb2 hr2 hk2 hlc hc2 hcs2 hkw2 hib) | (go_at_call 34; have _t2 := Z5.out; refine (ended_calls y _).mono ?_; rw [HYS.out]; rintro e w6 ⟨rfl, hk6⟩; obtain ⟨v0, v1, v2⟩ := Z5.out _ hk6; have HCS6 := Lib.hid v2; have HKW6 := Lib.hid (HKW5.out.trans hk6); have HCSN := Lib.hid (HCS5.out.keep0 hk6); clear hk6 v2) | (go_at_call 34; have _t1 := HCS2.out; refine (ended_calls x _).mono ?_; rw [Hx.out]; rintro e w4 ⟨rfl, hk4⟩; have HCS4 := Lib.hid (HCS2.out.keep0 hk4); have HKW4 := Lib.hid (HKW2.out.trans hk4); clear hk4 HCS2 HKW2) | (go_at_call 35; refine (over_calls HCS4.out (by simp)).mono ?_; rintro e w5 ⟨rfl, hcs5, hk5⟩; have HCS5 := Lib.hid (show CS w5 w.heap.size ib ⟨r, 0, 0, 0⟩ from hcs5); have HKW5 := Lib.hid (HKW4.out.trans' hk5 (by omega)); obtain ⟨off3, c3, y3, z0, hy3, z1, z1b, z2, z3, z4, z5⟩ := HCS5.out.last Hr.out; obtain rfl := (Option.some.inj (hy3.symm.trans HY.out)).symm; have Z5 := Lib.hid z5; clear z5 hy3; clear hcs5 hk5))
                go_ret
                refine ⟨w.heap.size, ib, rfl, Nat.le_refl _, Hib.out, ?_, HKW6.out.setCell (p := ⟨w.heap.size, 0, none⟩) (Or.inr (Nat.le_refl _)) _⟩
                rw [Hcur.out, E4.out]
                exact HCS6.out
              | false =>
                have HYS := Lib.hid hys
                have E4 := Lib.hid (E3.out.trans (if_neg (by rw [hys]; decide)))
                clear hys
                go_wp2_with (first | (go_at_call 32; refine Hcw.out.mono ?_; rintro e w2 ⟨ib, rfl, hib, hb2, hr2, hk2, hlc, hc2⟩; have m0 : w2.cell? ⟨w.heap.size, 0, none⟩ = some (.slice A its.length c) := (blk_cell hb2 0).trans rfl; have f0 := blk_free hb2 0; obtain ⟨hcs2, hkw2⟩ := compact_cs hib hb2 hr2 hk2 hlc hc2 (by have := Hla.out; omega); obtain ⟨off, rfl, hx0⟩ := hr2 (by simp); obtain ⟨xa, xb, xc⟩ := hx0 0 x rfl; have x0 : w2.cell? ⟨ib, off, none⟩ = some (.int .i64 x.line) := xa; have x1 : w2.cell? ⟨ib, off + 1, none⟩ = some (.int .i64 x.col) := xb; have x2 : w2.cell? ⟨ib, off + 2, none⟩ = some x.has.v := xc; have n1 : ¬ ib = w.heap.size := (by omega); have n2 : ¬ w.heap.size = ib := (by omega); clear hx0 xa xb xc; have HCS2 := Lib.hid hcs2; have HKW2 := Lib.hid hkw2; have Hib := Lib.hid (show w.heap.size ≤ ib from by omega); clear hb2 hr2 hk2 hlc hc2 hcs2 hkw2 hib) | (go_at_call 34; have _t2 := Z5.out; refine (ended_calls y _).mono ?_; rw [HYS.out]; rintro e w6 ⟨rfl, hk6⟩; obtain ⟨v0, v1, v2⟩ := Z5.out _ hk6; have HCS6 := Lib.hid v2; have HKW6 := Lib.hid (HKW5.out.trans hk6); have HCSN := Lib.hid (HCS5.out.keep0 hk6); clear hk6 v2) | (go_at_call 34; have _t1 := HCS2.out; refine (ended_calls x _).mono ?_; rw [Hx.out]; rintro e w4 ⟨rfl, hk4⟩; have HCS4 := Lib.hid (HCS2.out.keep0 hk4); have HKW4 := Lib.hid (HKW2.out.trans hk4); clear hk4 HCS2 HKW2) | (go_at_call 35; refine (over_calls HCS4.out (by simp)).mono ?_; rintro e w5 ⟨rfl, hcs5, hk5⟩; have HCS5 := Lib.hid (show CS w5 w.heap.size ib ⟨r, 0, 0, 0⟩ from hcs5); have HKW5 := Lib.hid (HKW4.out.trans' hk5 (by omega)); obtain ⟨off3, c3, y3, z0, hy3, z1, z1b, z2, z3, z4, z5⟩ := HCS5.out.last Hr.out; obtain rfl := (Option.some.inj (hy3.symm.trans HY.out)).symm; have Z5 := Lib.hid z5; clear z5 hy3; clear hcs5 hk5))
                go_ret
                refine ⟨w.heap.size, ib, rfl, Nat.le_refl _, Hib.out, ?_, HKW6.out⟩
                rw [Hcur.out, E4.out]
                exact HCSN.out
          | false =>
            have hb0 : (if firstStop (x :: r) = true then (x :: r).tail else (x :: r)) = x :: r := by simp [firstStop, hx]
            obtain ⟨b, ha⟩ : ∃ b, b = x :: r := ⟨_, rfl⟩
            rw [← ha] at Hcw Hla hot hb0 Hla0
            have hb := hb0
            clear hb0
            have Ha := Lib.hid ha
            clear ha
            have Hx := Lib.hid hx
            clear hx
            obtain ⟨y, hy⟩ : ∃ y, b.getLast? = some y := ⟨_, List.getLast?_eq_some_getLast (by rw [Ha.out]; simp)⟩
            have HY := Lib.hid hy
            have hrl : b.length ≤ 3000000000 := by omega
            have hlen2 : 0 < b.length := by rw [Ha.out]; simp
            have E3 := Lib.hid (hot.trans (overTail_eq hb hy))
            clear hot Hla0 hb hy
            have q1 : IntKind.i64.wrap ((b.length : Int) - 1) = (b.length : Int) - 1 := IntWalk.i64_in _ (by omega)
            have q2 : (0 : Int) ≤ (b.length : Int) - 1 := by omega
            have q2' : (1 : Int) ≤ (b.length : Int) := by omega
            have q3 : ((b.length : Int) - 1).toNat = b.length - 1 := by omega
            have q4 : (b.length : Int) - 1 < (b.length : Int) := by omega
            have q5 : (0 : Int) < (b.length : Int) := by omega
            cases hys : y.has.isStop with
            | true =>
              have HYS := Lib.hid hys
              have E4 := Lib.hid (E3.out.trans (if_pos hys))
              clear hys
              go_wp2_with (first | (go_at_call 32; refine Hcw.out.mono ?_; rintro e w2 ⟨ib, rfl, hib, hb2, hr2, hk2, hlc, hc2⟩; have m0 : w2.cell? ⟨w.heap.size, 0, none⟩ = some (.slice A its.length c) := (blk_cell hb2 0).trans rfl; have f0 := blk_free hb2 0; obtain ⟨hcs2, hkw2⟩ := compact_cs hib hb2 hr2 hk2 hlc hc2 (by have := Hla.out; omega); obtain ⟨off, rfl, hx0⟩ := hr2 (by rw [Ha.out]; simp); obtain ⟨xa, xb, xc⟩ := hx0 0 x (by rw [Ha.out]; rfl); have x0 : w2.cell? ⟨ib, off, none⟩ = some (.int .i64 x.line) := xa; have x1 : w2.cell? ⟨ib, off + 1, none⟩ = some (.int .i64 x.col) := xb; have x2 : w2.cell? ⟨ib, off + 2, none⟩ = some x.has.v := xc; have n1 : ¬ ib = w.heap.size := (by omega); have n2 : ¬ w.heap.size = ib := (by omega); clear hx0 xa xb xc; have HCS2 := Lib.hid hcs2; have HKW2 := Lib.hid hkw2; have Hib := Lib.hid (show w.heap.size ≤ ib from by omega); clear hb2 hr2 hk2 hlc hc2 hcs2 hkw2 hib) | (go_at_call 34; have _t2 := Z5.out; refine (ended_calls y _).mono ?_; rw [HYS.out]; rintro e w6 ⟨rfl, hk6⟩; obtain ⟨v0, v1, v2⟩ := Z5.out _ hk6; have HCS6 := Lib.hid v2; have HKW6 := Lib.hid (HKW4.out.trans hk6); have HCSN := Lib.hid (HCS4.out.keep0 hk6); clear hk6 v2) | (go_at_call 34; have _t1 := HCS2.out; refine (ended_calls x _).mono ?_; rw [Hx.out]; rintro e w4 ⟨rfl, hk4⟩; have HCS4 := Lib.hid (HCS2.out.keep0 hk4); have HKW4 := Lib.hid (HKW2.out.trans hk4); obtain ⟨off3, c3, y3, z0, hy3, z1, z1b, z2, z3, z4, z5⟩ := HCS4.out.last (by rw [Ha.out]; simp); obtain rfl := (Option.some.inj (hy3.symm.trans HY.out)).symm; have Z5 := Lib.hid z5; clear z5 hy3; clear hk4 HCS2 HKW2))
              go_ret
              refine ⟨w.heap.size, ib, rfl, Nat.le_refl _, Hib.out, ?_, HKW6.out.setCell (p := ⟨w.heap.size, 0, none⟩) (Or.inr (Nat.le_refl _)) _⟩
              rw [Hcur.out, E4.out]
              exact HCS6.out
            | false =>
              have HYS := Lib.hid hys
              have E4 := Lib.hid (E3.out.trans (if_neg (by rw [hys]; decide)))
              clear hys
              go_wp2_with (first | (go_at_call 32; refine Hcw.out.mono ?_; rintro e w2 ⟨ib, rfl, hib, hb2, hr2, hk2, hlc, hc2⟩; have m0 : w2.cell? ⟨w.heap.size, 0, none⟩ = some (.slice A its.length c) := (blk_cell hb2 0).trans rfl; have f0 := blk_free hb2 0; obtain ⟨hcs2, hkw2⟩ := compact_cs hib hb2 hr2 hk2 hlc hc2 (by have := Hla.out; omega); obtain ⟨off, rfl, hx0⟩ := hr2 (by rw [Ha.out]; simp); obtain ⟨xa, xb, xc⟩ := hx0 0 x (by rw [Ha.out]; rfl); have x0 : w2.cell? ⟨ib, off, none⟩ = some (.int .i64 x.line) := xa; have x1 : w2.cell? ⟨ib, off + 1, none⟩ = some (.int .i64 x.col) := xb; have x2 : w2.cell? ⟨ib, off + 2, none⟩ = some x.has.v := xc; have n1 : ¬ ib = w.heap.size := (by omega); have n2 : ¬ w.heap.size = ib := (by omega); clear hx0 xa xb xc; have HCS2 := Lib.hid hcs2; have HKW2 := Lib.hid hkw2; have Hib := Lib.hid (show w.heap.size ≤ ib from by omega); clear hb2 hr2 hk2 hlc hc2 hcs2 hkw2 hib) | (go_at_call 34; have _t2 := Z5.out; refine (ended_calls y _).mono ?_; rw [HYS.out]; rintro e w6 ⟨rfl, hk6⟩; obtain ⟨v0, v1, v2⟩ := Z5.out _ hk6; have HCS6 := Lib.hid v2; have HKW6 := Lib.hid (HKW4.out.trans hk6); have HCSN := Lib.hid (HCS4.out.keep0 hk6); clear hk6 v2) | (go_at_call 34; have _t1 := HCS2.out; refine (ended_calls x _).mono ?_; rw [Hx.out]; rintro e w4 ⟨rfl, hk4⟩; have HCS4 := Lib.hid (HCS2.out.keep0 hk4); have HKW4 := Lib.hid (HKW2.out.trans hk4); obtain ⟨off3, c3, y3, z0, hy3, z1, z1b, z2, z3, z4, z5⟩ := HCS4.out.last (by rw [Ha.out]; simp); obtain rfl := (Option.some.inj (hy3.symm.trans HY.out)).symm; have Z5 := Lib.hid z5; clear z5 hy3; clear hk4 HCS2 HKW2))
              go_ret
              refine ⟨w.heap.size, ib, rfl, Nat.le_refl _, Hib.out, ?_, HKW6.out⟩
              rw [Hcur.out, E4.out]
              exact HCSN.out
  · have b1 : ((wordRead s).2.2.2 != 0) = true := by simpa using hbad
    have hcur : overCur s = ⟨[], (wordRead s).2.2.2, (wordRead s).2.1, (wordRead s).2.2.1⟩ := by unfold overCur; rw [if_neg hbad]
    have Hcur := Lib.hid hcur
    clear hbad hcur
    go_enter Tryd.func19, Tryd.ntmps19
    go_wp2_with (first | (go_at_call 30; refine Hread.out.mono ?_; rintro e w1 ⟨wA, wc, rfl, ho, hk⟩; have hb1 : w1.heap[w.heap.size]? = some (CurBlk none 0 ⟨[], 0, 0, 0⟩) := hk.heap (blk_new w _) (by simp); have Ho := Lib.hid ho; have Hk := Lib.hid (HA0.out.trans hk); have Hb1 := Lib.hid hb1; have c1 : w1.cell? ⟨w.heap.size, 1, none⟩ = some (.int .i64 0) := (blk_cell hb1 1).trans rfl; have c2 : w1.cell? ⟨w.heap.size, 2, none⟩ = some (.int .i64 0) := (blk_cell hb1 2).trans rfl; have c3 : w1.cell? ⟨w.heap.size, 3, none⟩ = some (.int .i64 0) := (blk_cell hb1 3).trans rfl; have f1 := blk_free hb1 1; have f2 := blk_free hb1 2; have f3 := blk_free hb1 3; clear ho hk hb1))
    go_ret
    refine ⟨w.heap.size, w.heap.size + 1, rfl, Nat.le_refl _, by omega, ?_, ?_⟩
    · rw [Hcur.out]
      refine ⟨none, 0, ?_, Nat.le_refl _, by omega, fun hn => absurd rfl hn, by omega⟩
      exact blk_set (blk_set (blk_set Hb1.out 1 _) 2 _) 3 _
    · exact (((Hk.out).setCell (p := ⟨w.heap.size, 1, none⟩) (Or.inr (Nat.le_refl _)) _).setCell (p := ⟨w.heap.size, 2, none⟩) (Or.inr (Nat.le_refl _)) _).setCell (p := ⟨w.heap.size, 3, none⟩) (Or.inr (Nat.le_refl _)) _

end Go.Proofs.YtfpjdgobannneaaDoor
