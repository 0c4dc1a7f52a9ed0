
/-
  The reader of package mach: the contracts of key, reg, regs.
-/
import Derived.Test.YtfpjdgobannneaaDoorOverF
import Derived.Test.YtfpjdgobannneaaDoorMachP
import Derived.Test.YtfpjdgobannneaaDoorWMore
import Derived.Test.YtfpjdgobannneaaDoorMachR
import Derived.Deep.WholeRow
import Derived.Deep.Cut
import Derived.Laws.ResultCell
import Derived.Test.YtfpjdgobannneaaDoorShelf
import Derived.BigQuiet
import Derived.Laws.Tables
import Derived.Laws.CopyOwn
import Derived.Laws.StructEq
import Derived.Laws.Rows
namespace Go.Proofs.YtfpjdgobannneaaDoor
open Go Go.RowKit Go.Proofs.YtfpjdgobannneaaDoorW.PrintWords Go.Proofs.YtfpjdgobannneaaDoorW.PrintLast Go.Proofs.YtfpjdgobannneaaDoorW.PrintMore
set_option linter.unusedSimpArgs false

section
set_option maxRecDepth 100000
set_option maxHeartbeats 4000000
variable {b ib : Nat} {st : Cur} {w : World}

theorem mkey_calls (h : CS w b ib st) (s : ByteArray) :
    Calls Tryd.prog 20 #[.agg #[.pointer (some ⟨b, 0, none⟩)], .string s] w fun e w' => e = .returned (.tuple #[]) ∧ CSK w w' b ib (st.must s) := by
  have hlt := h.lt
  have hob := blk_new w (.cells #[.pointer (some ⟨b, 0, none⟩)] 51)
  have y0 : (w.alloc (.cells #[.pointer (some ⟨b, 0, none⟩)] 51)).cell? ⟨w.heap.size, 0, none⟩ = some (.pointer (some ⟨b, 0, none⟩)) := (blk_cell hob 0).trans rfl
  have H1 := Lib.hid (h.keep0 ((Keeps.refl (fun _ => False) w).alloc (.cells #[.pointer (some ⟨b, 0, none⟩)] 51)))
  have K1 := Lib.hid ((Keeps.refl (fun k => k = b) w).alloc (.cells #[.pointer (some ⟨b, 0, none⟩)] 51))
  have hbw : ¬ w.heap.size = b := by omega
  have Y0 := Lib.hid y0
  clear h hob
  cases hi : st.is (.name s) with
  | true =>
    have em : st.must s = st.isTo (.name s) := by
      unfold Cur.must Cur.isTo
      rw [if_pos hi, if_pos hi]
    rw [em]
    have Hi := Lib.hid hi
    clear hi em
    go_enter Tryd.func20, Tryd.ntmps20
    go_wp2_with (first | (go_at_call 36; have m2 := key_calls H1.out s; rw [Hi.out] at m2; refine m2.mono ?_; clear m2; rintro e w2 ⟨rfl, c2, k2⟩; have Fin := Lib.hid (show CSK w w2 b ib (st.isTo (.name s)) from ⟨c2, K1.out.trans k2⟩); clear c2 k2))
    go_end0
    exact ⟨rfl, Fin.out⟩
  | false =>
    have em : st.must s = st.fail 7 := by
      unfold Cur.must
      rw [hi]
      rfl
    have et : st.isTo (.name s) = st := by
      unfold Cur.isTo
      rw [hi]
      rfl
    rw [em]
    have Hi := Lib.hid hi
    have Et := Lib.hid et
    clear hi em et
    go_enter Tryd.func20, Tryd.ntmps20
    go_wp2_with (first | (go_at_call 36; have m2 := key_calls H1.out s; rw [Hi.out, Et.out] at m2; refine m2.mono ?_; clear m2; rintro e w2 ⟨rfl, c2, k2⟩; have z0 : w2.cell? ⟨w.heap.size, 0, none⟩ = some (.pointer (some ⟨b, 0, none⟩)) := k2.cell' Y0.out hbw; have C2 := Lib.hid c2; have K2 := Lib.hid (K1.out.trans k2); clear c2 k2) | (go_at_call 37; refine (fail_calls C2.out 7).mono ?_; rintro e w3 ⟨rfl, c3, k3⟩; have Fin := Lib.hid (show CSK w w3 b ib (st.fail 7) from ⟨c3, K2.out.trans k3⟩); clear c3 k3))
    go_end0
    exact ⟨rfl, Fin.out⟩

theorem mreg_calls (h : CS w b ib st) :
    Calls Tryd.prog 21 #[.agg #[.pointer (some ⟨b, 0, none⟩)]] w fun e w' => e = .returned (.int .i64 (st.num 0 64).1) ∧ CSK w w' b ib (st.num 0 64).2 := by
  have hlt := h.lt
  have hob := blk_new w (.cells #[.pointer (some ⟨b, 0, none⟩)] 51)
  have y0 : (w.alloc (.cells #[.pointer (some ⟨b, 0, none⟩)] 51)).cell? ⟨w.heap.size, 0, none⟩ = some (.pointer (some ⟨b, 0, none⟩)) := (blk_cell hob 0).trans rfl
  have H1 := Lib.hid (h.keep0 ((Keeps.refl (fun _ => False) w).alloc (.cells #[.pointer (some ⟨b, 0, none⟩)] 51)))
  have K1 := Lib.hid ((Keeps.refl (fun k => k = b) w).alloc (.cells #[.pointer (some ⟨b, 0, none⟩)] 51))
  clear h hob
  go_enter Tryd.func21, Tryd.ntmps21
  go_wp2_with (first | (go_at_call 38; refine (num_calls H1.out 0 64).mono ?_; rintro e w2 ⟨rfl, c2, k2⟩; have Fin := Lib.hid (show CSK w w2 b ib (st.num 0 64).2 from ⟨c2, K1.out.trans k2⟩); clear c2 k2))
  go_ret
  exact ⟨rfl, Fin.out⟩

theorem info_int' : (Tryd.prog.info? 3).map (fun i => (i.zero, i.size, i.bytes)) = some (some (.int .i64 0), 1, 8) := by kernel_rfl

theorem tl_eq (a c : ByteArray) : (a.toList == c.toList) = decide (a = c) := by
  rw [ByteArray.toList_eq, ByteArray.toList_eq]
  by_cases h : a = c
  · subst h; simp
  · have h2 : ¬ a.data.toList = c.data.toList := fun e => h (by
      obtain ⟨a⟩ := a
      obtain ⟨c⟩ := c
      congr 1
      exact Array.toList_inj.1 e)
    rw [show decide (a = c) = false by simp [h]]
    exact beq_eq_false_iff_ne.2 h2

/-- a row of numbers that was made -/
def IntsR (w : World) (base b : Nat) (v : Value) (xs : List Int) : Prop := Kd.R (Kd.int .i64) 3 w base (fun k => k ≠ b) v xs

theorem IntsR.keeps {w w' : World} {base b : Nat} {v : Value} {xs : List Int} (h : IntsR w base b v xs) (hk : Keeps (fun k => k = b) w w') : IntsR w' base b v xs :=
  Kd.R_step h (fun k ho hlt => hk.block k hlt ho)

theorem keeps_of_below {B : Nat} {w w' : World} (h : Below B w w') : Keeps (fun k => B ≤ k) w w' := ⟨h.os, h.tape, h.output, h.size, fun k _ hs => h.block k (by omega)⟩

def lenOf : Value → Nat
  | .slice _ n _ => n
  | _ => 0

theorem IntsR.len {w : World} {base b : Nat} {v : Value} {xs : List Int} (h : IntsR w base b v xs) : lenOf v = xs.length := by
  obtain ⟨A, c, rfl⟩ := Kd.R_slice h
  rfl

theorem mregs_calls (h : CS w b ib st) (F : Nat) (hF : st.items.length < F) (hF2 : F ≤ 1000000000) (hib : ib < w.heap.size) :
    Calls Tryd.prog 22 #[.agg #[.pointer (some ⟨b, 0, none⟩)]] w fun e w' => ∃ v, e = .returned v ∧ IntsR w' w.heap.size b v (regsP F st).1 ∧ CSK w w' b ib (regsP F st).2 := by
  have hlt := h.lt
  have hob := blk_new w (.cells #[.pointer (some ⟨b, 0, none⟩)] 51)
  have H1 := Lib.hid (h.keep0 ((Keeps.refl (fun _ => False) w).alloc (.cells #[.pointer (some ⟨b, 0, none⟩)] 51)))
  have K1 := Lib.hid ((Keeps.refl (fun k => k = b) w).alloc (.cells #[.pointer (some ⟨b, 0, none⟩)] 51))
  have y0 : (w.alloc (.cells #[.pointer (some ⟨b, 0, none⟩)] 51)).cell? ⟨w.heap.size, 0, none⟩ = some (.pointer (some ⟨b, 0, none⟩)) := (blk_cell hob 0).trans rfl
  have Y0 := Lib.hid y0
  have hbw : ¬ w.heap.size = b := by omega
  clear h hob y0
  go_enter Tryd.func22, Tryd.ntmps22
  go_wp2
  go_loopw [2] (fun v2 wr => ∃ (xs : List Int) (f : Nat) (c : Cur), Hid (IntsR wr (w.heap.size + 1) b v2 xs) ∧ Hid (regsP F st = (xs ++ (regsP f c).1, (regsP f c).2)) ∧ Hid ((c.items.length < f ∨ c.more = false) ∧ xs.length + f = F) ∧ Hid (CS wr b ib c) ∧ Hid (Keeps (fun k => k = b) w wr ∧ w.heap.size + 1 ≤ wr.heap.size ∧ wr.cell? ⟨w.heap.size, 0, none⟩ = some (.pointer (some ⟨b, 0, none⟩)))) (fun v2 _ => F - lenOf v2)
  case atStart => exact ⟨[], F, st, Lib.hid (Kd.R_nil _ _ _ _ _), Lib.hid rfl, Lib.hid ⟨Or.inl hF, by simp⟩, H1, Lib.hid ⟨K1.out, by simp, Y0.out⟩⟩
  case round =>
    obtain ⟨xs, f, c, HR, HE, HF, HC, HK⟩ := hrel
    clear H1 K1 Y0
    obtain ⟨_, hsz, z0⟩ := HK.out
    have Z0 := Lib.hid z0
    have Hlen := Lib.hid HR.out.len
    have Hib := Lib.hid hib
    have Hlt := Lib.hid hlt
    have HF2 := Lib.hid hF2
    have stop : ∀ {f : Nat}, ¬ (c.more = true ∧ c.ends = false ∧ c.peek = ⟨#[]⟩) → regsP f c = ([], c) := fun {f} q => by
      cases f with
      | zero => rfl
      | succ f => rw [regsP, if_neg q]
    have Stop := Lib.hid (fun (q : ¬ (c.more = true ∧ c.ends = false ∧ c.peek = ⟨#[]⟩)) => show regsP F st = (xs, c) from by rw [HE.out, stop q, List.append_nil])
    clear stop hib hlt hF2 hF
    obtain ⟨A, cap, rfl⟩ := Kd.R_slice HR.out
    by_cases hm : c.more = true
    · by_cases he : c.ends = false
      · by_cases hp : c.peek = ⟨#[]⟩
        · obtain ⟨f, rfl⟩ : ∃ j, f = j + 1 := ⟨f - 1, by
            rcases HF.out.1 with q | q
            · omega
            · rw [hm] at q; cases q⟩
          have HE2 := Lib.hid (show regsP F st = ((xs ++ [(c.num 0 64).1]) ++ (regsP f (c.num 0 64).2).1, (regsP f (c.num 0 64).2).2) from by
            rw [HE.out, regsP, if_pos ⟨hm, he, hp⟩]
            simp)
          have HF3 := Lib.hid (show ((c.num 0 64).2.items.length < f ∨ (c.num 0 64).2.more = false) ∧ xs.length + 1 + f = F from by
            have h1 := HF.out
            refine ⟨?_, by omega⟩
            rcases num_len c hm with q | ⟨_, q⟩
            · exact Or.inr q
            · rcases h1.1 with q2 | q2
              · exact Or.inl (by omega)
              · rw [hm] at q2; cases q2)
          have Hm := Lib.hid hm
          have He := Lib.hid he
          have Hp := Lib.hid hp
          clear hm he hp Stop
          go_wp2_with (first | (go_at_call 39; have m := more_calls HC.out; rw [Hm.out] at m; refine m.mono ?_; clear m; rintro e w3 ⟨rfl, rfl⟩) | (go_at_call 40; have m := ends_calls HC.out; rw [He.out] at m; refine m.mono ?_; clear m; rintro e w3 ⟨rfl, rfl⟩) | (go_at_call 41; have m := peek_calls HC.out; rw [Hp.out] at m; refine m.mono ?_; clear m; rintro e w3 ⟨rfl, rfl⟩) | (go_at_call 21; refine (mreg_calls HC.out).mono ?_; rintro e w5 ⟨rfl, c5, k5⟩; have C5 := Lib.hid c5; have R5 := Lib.hid (HR.out.keeps k5); have K5 := Lib.hid (HK.out.1.trans k5); have S5 := Lib.hid (Nat.le_trans HK.out.2.1 k5.size); have Z5 := Lib.hid (k5.cell' Z0.out hbw); clear c5 k5) | ((with_reducible refine gate_builtin (b := .append) (xs := #[.tmp 18, .tmp 21]) rfl ?_); at_builtin; refine Kd.R_append (Kd.int .i64) (w0 := w5) (w.heap.size + 1) rfl (.tmp 18) (.tmp 21) 22 3 (.int .i64 0) 8 rfl Tryd.underlying22 info_int' rfl (by decide) (by omega) (.slice A xs.length cap) xs (c.num 0 64).1 [.int .i64 (c.num 0 64).1] (fun k => k ≠ b) (fun _ => False) rfl rfl ?aP (fun _ hk => hk.elim) ?aF ?aO ?aB ?aS ?aL ?_; (case aP => exact rfl); (case aB => exact Below.refl _ _); (case aF => exact (fun k hk => by have := S5.out; have := Hlt.out; omega)); (case aO => exact R5.out); (case aS => exact S5.out); (case aL => have := HF3.out.2; have := HF2.out; omega); intro v2 w2 ho hb hg hat; have R2 := Lib.hid (show IntsR w2 (w.heap.size + 1) b v2 (xs ++ [(c.num 0 64).1]) from ho); have KB := Lib.hid (keeps_of_below hb); clear ho hb hg hat))
          go_roundw
          case rel =>
            refine ⟨xs ++ [(c.num 0 64).1], f, (c.num 0 64).2, R2, HE2, Lib.hid ⟨HF3.out.1, by rw [List.length_append]; have := HF3.out.2; simp; omega⟩, Lib.hid (C5.out.keeps KB.out (by have := Hlt.out; omega) (by have := Hib.out; omega)), Lib.hid ⟨K5.out.trans' KB.out (fun i hi q => ?_), Nat.le_trans S5.out KB.out.size, KB.out.cell' Z5.out (by show ¬ w.heap.size + 1 ≤ w.heap.size; omega)⟩⟩
            have q2 : w.heap.size + 1 ≤ i := q
            omega
          case measure =>
            rw [R2.out.len, List.length_append]
            have := HF3.out.2
            simp [lenOf]
            omega
        · have hpb : (c.peek.toList == (⟨#[]⟩ : ByteArray).toList) = false := by rw [tl_eq]; simpa using hp
          have hpb2 : (c.peek.toList == []) = false := by
            have e0 : (⟨#[]⟩ : ByteArray).toList = [] := by rw [ByteArray.toList_eq]
            rw [← hpb, e0]
          have e1 := Stop.out (fun q => hp q.2.2)
          have Hm := Lib.hid hm
          have He := Lib.hid he
          have E1 := Lib.hid e1
          clear hm he e1
          go_wp2_with (first | (go_at_call 39; have m := more_calls HC.out; rw [Hm.out] at m; refine m.mono ?_; clear m; rintro e w3 ⟨rfl, rfl⟩) | (go_at_call 40; have m := ends_calls HC.out; rw [He.out] at m; refine m.mono ?_; clear m; rintro e w3 ⟨rfl, rfl⟩) | (go_at_call 41; refine (peek_calls HC.out).mono ?_; rintro e w3 ⟨rfl, rfl⟩))
          go_ret
          rw [E1.out]
          exact ⟨_, rfl, Kd.R_lower HR.out (by omega), HC.out, HK.out.1⟩
      · have he' : c.ends = true := by simpa using he
        have e1 := Stop.out (fun q => he q.2.1)
        have Hm := Lib.hid hm
        have He := Lib.hid he'
        have E1 := Lib.hid e1
        clear hm he he' e1
        go_wp2_with (first | (go_at_call 39; have m := more_calls HC.out; rw [Hm.out] at m; refine m.mono ?_; clear m; rintro e w3 ⟨rfl, rfl⟩) | (go_at_call 40; have m := ends_calls HC.out; rw [He.out] at m; refine m.mono ?_; clear m; rintro e w3 ⟨rfl, rfl⟩))
        go_ret
        rw [E1.out]
        exact ⟨_, rfl, Kd.R_lower HR.out (by omega), HC.out, HK.out.1⟩
    · have hm' : c.more = false := by simpa using hm
      have e1 := Stop.out (fun q => hm q.1)
      have Hm := Lib.hid hm'
      have E1 := Lib.hid e1
      clear hm hm' e1
      go_wp2_with (first | (go_at_call 39; have m := more_calls HC.out; rw [Hm.out] at m; refine m.mono ?_; clear m; rintro e w3 ⟨rfl, rfl⟩))
      go_ret
      rw [E1.out]
      exact ⟨_, rfl, Kd.R_lower HR.out (by omega), HC.out, HK.out.1⟩

end
end Go.Proofs.YtfpjdgobannneaaDoor

/-
  The set of registers (mach.of), whether numbers are sorted, and whether a machine is right: contracts.
-/
namespace Go.Proofs.YtfpjdgobannneaaDoor
open Go Go.RowKit
set_option linter.unusedSimpArgs false

/-- numbers in memory -/
def IntsAt (w : World) (A : Option Addr) (xs : List Int) : Prop := xs ≠ [] → ∃ g off, A = some ⟨g, off, none⟩ ∧ g < w.heap.size ∧ ∀ j x, xs[j]? = some x → w.cell? ⟨g, off + j, none⟩ = some (.int .i64 x)

theorem IntsAt.keep0 {w w' : World} {A : Option Addr} {xs : List Int} (h : IntsAt w A xs) (hk : Keeps (fun _ => False) w w') : IntsAt w' A xs := by
  intro hne
  obtain ⟨g, off, hA, hg, hc⟩ := h hne
  exact ⟨g, off, hA, by have := hk.size; omega, fun j x hj => hk.cell' (hc j x hj) (by simp)⟩

/-- a set's cells -/
def setC (seen : List Int) : Array Value := ((List.range 64).map fun (i : Nat) => Value.bool (decide ((i : Int) ∈ seen))).toArray

theorem setC_size (seen : List Int) : (setC seen).size = 64 := by simp [setC]

theorem setC_at (seen : List Int) {r : Nat} (hr : r < 64) : (setC seen)[r]? = some (.bool (decide ((r : Int) ∈ seen))) := by
  simp [setC, hr]

theorem setC_put (seen : List Int) (r : Nat) : (setC seen).setIfInBounds r (.bool true) = setC (seen ++ [(r : Int)]) := by
  apply Array.ext_getElem?
  intro i
  by_cases hi : i < 64
  · rw [setC_at _ hi]
    by_cases hir : r = i
    · subst hir
      rw [Array.getElem?_setIfInBounds_self_of_lt (by rw [setC_size]; exact hi)]
      simp
    · rw [Array.getElem?_setIfInBounds_ne hir, setC_at _ hi]
      congr 2
      have : (i : Int) ≠ (r : Int) := by omega
      simp [this]
  · rw [Array.getElem?_eq_none (by simp [setC_size]; omega), Array.getElem?_eq_none (by rw [setC_size]; omega)]

theorem setCell_new (w : World) (c : Array Value) (t : TypeId) (i : Nat) (u : Value) : (w.alloc (.cells c t)).setCell ⟨w.heap.size, i, none⟩ u = w.alloc (.cells (c.setIfInBounds i u) t) := by
  simp only [World.setCell, World.alloc]
  congr 1
  apply Array.ext_getElem?
  intro k
  rw [Array.getElem?_modify]
  by_cases hk : w.heap.size = k
  · subst hk
    simp
  · have hk2 : ¬ k = w.heap.size := fun e => hk e.symm
    rw [if_neg hk, Array.getElem?_push, Array.getElem?_push, if_neg hk2, if_neg hk2]

theorem setC_one (seen : List Int) : (setC seen).all (·.oneCell') = true := by
  rw [Array.all_eq_true]
  intro i hi
  have h64 : i < 64 := by rw [setC_size] at hi; exact hi
  have := setC_at seen h64
  rw [Array.getElem?_eq_getElem hi] at this
  rw [Option.some.inj this]
  rfl

theorem setC_info (seen : List Int) : (Tryd.prog.info? 42).map (·.size) = some (setC seen).size := by
  rw [setC_size]
  kernel_rfl

section
variable {ops : Array Oper} {rest : List Oper} {o : Oper} {a : Act} {W W' : World} {Q : Exit → Act → World → Prop}

/-- a whole array is read, in one step -/
theorem load_whole (T : TypeId) (hgd : o.guard = none) (p : Operand) (N : Option Tmp) (hN : o.dst = N) (ho : o.op = .load T p) (v pv : Value) (hp : a.eval p = pv) (hrun : (Instr.loadAt T pv).run Tryd.prog W = .ok v W)
    (h : wpList Tryd.prog ops Q rest (a.put N v) W) : wpList Tryd.prog ops Q (o :: rest) a W := by
  refine wpList_plain hgd fun K hK => ?_
  have hr : (execOp a.eval o).run Tryd.prog W = .ok (.value v) W := by
    unfold execOp
    simp [ho, hp, hrun, Result.andThen, Sem.run_bind, Sem.run_pure]
  unfold Oper.wp
  rw [hr, Oper.upon_value]
  subst hN
  exact hK _ _ h

/-- a whole array is written, in one step -/
theorem store_whole (T : TypeId) (hgd : o.guard = none) (p q : Operand) (hN : o.dst = none) (ho : o.op = .store T p q) (pv qv : Value) (hp : a.eval p = pv) (hq : a.eval q = qv) (hrun : (Instr.storeAt T pv qv).run Tryd.prog W = .ok () W')
    (h : wpList Tryd.prog ops Q rest a W') : wpList Tryd.prog ops Q (o :: rest) a W := by
  refine wpList_plain hgd fun K hK => ?_
  have hr : (execOp a.eval o).run Tryd.prog W = .ok .skip W' := by
    unfold execOp
    simp [ho, hp, hq, hrun, Result.andThen, Sem.run_bind, Sem.run_pure]
  unfold Oper.wp
  rw [hr, Oper.upon_skip, hN]
  exact hK _ _ h

end

theorem regsOk_snoc {regs : Int} {l : List Int} {x : Int} : RegsOk regs (l ++ [x]) ↔ RegsOk regs l ∧ 0 ≤ x ∧ x < regs ∧ x ∉ l := by
  unfold RegsOk
  rw [List.nodup_append]
  simp only [List.mem_append, List.mem_singleton]
  constructor
  · rintro ⟨h1, h2, _, h4⟩
    exact ⟨⟨fun y hy => h1 y (Or.inl hy), h2⟩, (h1 x (Or.inr rfl)).1, (h1 x (Or.inr rfl)).2, fun hm => h4 x hm x rfl rfl⟩
  · rintro ⟨⟨h1, h2⟩, h3, h4, h5⟩
    refine ⟨fun y hy => ?_, h2, by simp, fun a ha b hb e => ?_⟩
    · rcases hy with hy | rfl
      · exact h1 y hy
      · exact ⟨h3, h4⟩
    · subst hb
      exact h5 (by rw [← e]; exact ha)

section
set_option maxRecDepth 100000
set_option maxHeartbeats 4000000

/-- what the set of registers tells -/
def OfPost (regs : Int) (l : List Int) (w : World) (e : Ending) (w' : World) : Prop := ∃ seen ok, e = .returned (.tuple #[.agg (setC seen), .bool ok]) ∧ (ok = true ↔ RegsOk regs l) ∧ (ok = true → seen = l) ∧ Keeps (fun _ => False) w w'

theorem of_calls (regs : Int) (hr : regs ≤ 64) (A : Option Addr) (cap : Nat) (l : List Int) (w : World) (hl : IntsAt w A l) (hlen : l.length ≤ 1000000000000) :
    Calls Tryd.prog 16 #[.int .i64 regs, .slice A l.length cap] w (OfPost regs l w) := by
  have HL := Lib.hid hl
  have Hlen := Lib.hid hlen
  clear hl hlen
  go_enter Tryd.func16, Tryd.ntmps16
  go_wp2
  go_loopw [10] (fun v10 wr => ∃ k : Nat, k ≤ l.length ∧ v10 = .int .i64 k ∧ Hid (RegsOk regs (l.take k)) ∧ wr = w.alloc (.cells (setC (l.take k)) 42)) (fun v10 _ => l.length - (intOf v10).toNat)
  case atStart => exact ⟨0, Nat.zero_le _, rfl, Lib.hid ⟨by simp, by simp⟩, rfl⟩
  case round =>
    obtain ⟨k, hk, rfl, HO, rfl⟩ := hrel
    have Hla := Lib.hid (run_loadAt_new (P := Tryd.prog) w 42 (setC (l.take k)) 64 4 Tryd.underlying42 (setC_info _))
    have Hsa := Lib.hid (run_storeAt_new (P := Tryd.prog) w 42 (setC (l.take k)) (setC (l.take k)) (setC_info _) rfl (setC_one _))
    have Hlv := Lib.hid (run_loadVar_new (P := Tryd.prog) w 42 (setC (l.take k)) 64 4 Tryd.underlying42 (setC_info _))
    have hk12 : l.length ≤ 1000000000000 := Hlen.out
    by_cases hlt : k < l.length
    · have hlk : l[k]? = some l[k] := by simp [hlt]
      obtain ⟨g, off, rfl, hg, hc⟩ := HL.out (List.length_pos_iff.1 (by omega))
      have hx := ((Keeps.refl (fun _ => False) w).alloc (.cells (setC (l.take k)) 42)).cell' (hc k _ hlk) (by simp)
      have Hst := Lib.hid (show l.take (k + 1) = l.take k ++ [l[k]] from by rw [List.take_add_one, hlk]; rfl)
      have Hbad := Lib.hid (fun (q : ¬ (0 ≤ l[k] ∧ l[k] < regs ∧ l[k] ∉ l.take k)) => show ¬ RegsOk regs l from fun hr => by
        have h1 : RegsOk regs (l.take (k + 1)) := ⟨fun y hy => hr.1 y (List.mem_of_mem_take hy), hr.2.sublist (List.take_sublist _ _)⟩
        rw [Hst.out, regsOk_snoc] at h1
        exact q h1.2)
      clear hlk hc
      generalize l[k] = x at *
      by_cases h1 : x < 0
      · go_upto_region 5 with (fail)
        refine wp_region_lit ?_
        refine load_whole 42 rfl (.tmp 4) (some 26) rfl rfl _ _ rfl Hla.out ?_
        refine store_whole 42 rfl (.tmp 4) (.tmp 26) rfl rfl _ _ rfl rfl Hsa.out ?_
        go_wp2
        (try simp only [Exit.inBlock, Exit.then])
        refine bodyPost_ret (v := .tuple #[.agg (setC (l.take k)), .bool false]) ?_ rfl ⟨_, false, rfl, ⟨fun h => (by cases h), fun hr => absurd hr (Hbad.out (fun q => by omega))⟩, fun h => (by cases h), (Keeps.refl _ w).alloc _⟩
        rw [results_cell_tmp rfl]
        simp [asAddr, Result.andThen, Hlv.out]
      · by_cases h2 : regs ≤ x
        · go_upto_region 5 with (fail)
          refine wp_region_lit ?_
          refine load_whole 42 rfl (.tmp 4) (some 26) rfl rfl _ _ rfl Hla.out ?_
          refine store_whole 42 rfl (.tmp 4) (.tmp 26) rfl rfl _ _ rfl rfl Hsa.out ?_
          go_wp2
          (try simp only [Exit.inBlock, Exit.then])
          refine bodyPost_ret (v := .tuple #[.agg (setC (l.take k)), .bool false]) ?_ rfl ⟨_, false, rfl, ⟨fun h => (by cases h), fun hr => absurd hr (Hbad.out (fun q => by omega))⟩, fun h => (by cases h), (Keeps.refl _ w).alloc _⟩
          rw [results_cell_tmp rfl]
          simp [asAddr, Result.andThen, Hlv.out]
        · obtain ⟨n, rfl⟩ : ∃ n : Nat, x = n := ⟨x.toNat, by omega⟩
          have hn : n < 64 := by omega
          have hn2 : (n : Int) < 64 := by omega
          have hob := blk_new w (.cells (setC (l.take k)) 42)
          have hsn : (w.alloc (.cells (setC (l.take k)) 42)).cell? ⟨w.heap.size, n, none⟩ = some (.bool (decide ((n : Int) ∈ l.take k))) := (blk_cell hob n).trans (setC_at _ hn)
          have hfn : (w.alloc (.cells (setC (l.take k)) 42)).frozen? ⟨w.heap.size, n, none⟩ = false := blk_free hob n
          by_cases h3 : (n : Int) ∈ l.take k
          · have hd3 : decide ((n : Int) ∈ l.take k) = true := by simpa using h3
            rw [hd3] at hsn
            have H3 := Lib.hid h3
            clear hob h3 hd3
            go_upto_region 5 with (fail)
            refine wp_region_lit ?_
            refine load_whole 42 rfl (.tmp 4) (some 26) rfl rfl _ _ rfl Hla.out ?_
            refine store_whole 42 rfl (.tmp 4) (.tmp 26) rfl rfl _ _ rfl rfl Hsa.out ?_
            go_wp2
            (try simp only [Exit.inBlock, Exit.then])
            refine bodyPost_ret (v := .tuple #[.agg (setC (l.take k)), .bool false]) ?_ rfl ⟨_, false, rfl, ⟨fun h => (by cases h), fun hr => absurd hr (Hbad.out (fun q => q.2.2 H3.out))⟩, fun h => (by cases h), (Keeps.refl _ w).alloc _⟩
            rw [results_cell_tmp rfl]
            simp [asAddr, Result.andThen, Hlv.out]
          · have hd3 : decide ((n : Int) ∈ l.take k) = false := by simpa using h3
            rw [hd3] at hsn
            have HO2 := Lib.hid (show RegsOk regs (l.take (k + 1)) from by
              rw [Hst.out, regsOk_snoc]
              exact ⟨HO.out, by omega, by omega, h3⟩)
            have Hw := Lib.hid (show (w.alloc (.cells (setC (l.take k)) 42)).setCell ⟨w.heap.size, n, none⟩ (.bool true) = w.alloc (.cells (setC (l.take (k + 1))) 42) from by
              rw [setCell_new, setC_put, Hst.out])
            clear hob h3 hd3
            go_wp2
            go_roundw
            case rel => exact ⟨k + 1, by omega, by go_num, HO2, by first | exact Hw.out | rw [setC_put, Hst.out]⟩
            case measure => simp [intOf]; omega
    · have hkl : k = l.length := by omega
      have htk : l.take k = l := List.take_of_length_le (by omega)
      have HR := Lib.hid (show RegsOk regs l from by have := HO.out; rwa [htk] at this)
      rw [htk] at Hla Hsa Hlv
      rw [htk]
      clear htk HO
      go_upto_region 8 with (fail)
      refine wp_region_lit ?_
      refine load_whole 42 rfl (.tmp 4) (some 30) rfl rfl _ _ rfl Hla.out ?_
      refine store_whole 42 rfl (.tmp 4) (.tmp 30) rfl rfl _ _ rfl rfl Hsa.out ?_
      go_wp2
      (try simp only [Exit.inBlock, Exit.then])
      refine bodyPost_ret (v := .tuple #[.agg (setC l), .bool true]) ?_ rfl ⟨_, true, rfl, ⟨fun _ => HR.out, fun _ => rfl⟩, fun _ => rfl, (Keeps.refl _ w).alloc _⟩
      rw [results_cell_tmp rfl]
      simp [asAddr, Result.andThen, Hlv.out]

end
end Go.Proofs.YtfpjdgobannneaaDoor

/-
  Whether numbers are sorted (slices.IsSorted over ints): its contract.
-/
namespace Go.Proofs.YtfpjdgobannneaaDoor
open Go Go.RowKit

theorem sorted_step {l : List Int} {t : Nat} (h : t + 1 < l.length) (hs : (l.drop (t + 1)).Pairwise (· ≤ ·)) (hle : l[t] ≤ l[t + 1]) : (l.drop t).Pairwise (· ≤ ·) := by
  have e1 : l.drop t = l[t] :: l.drop (t + 1) := List.drop_eq_getElem_cons (by omega)
  have e2 : l.drop (t + 1) = l[t + 1] :: l.drop (t + 2) := List.drop_eq_getElem_cons h
  rw [e1, List.pairwise_cons]
  refine ⟨fun x hx => ?_, hs⟩
  rw [e2] at hx hs
  rcases List.mem_cons.1 hx with rfl | hx
  · exact hle
  · exact Int.le_trans hle ((List.pairwise_cons.1 hs).1 x hx)

theorem sorted_not {l : List Int} {t : Nat} (h : t + 1 < l.length) (hle : ¬ l[t] ≤ l[t + 1]) : ¬ l.Pairwise (· ≤ ·) := fun hs =>
  hle (List.pairwise_iff_getElem.1 hs t (t + 1) (by omega) h (by omega))

section
set_option maxRecDepth 100000
set_option maxHeartbeats 4000000

theorem sorted_calls (A : Option Addr) (cap : Nat) (l : List Int) (w : World) (hl : IntsAt w A l) (hlen : l.length ≤ 1000000000000) :
    Calls Tryd.prog 15 #[.slice A l.length cap] w fun e w' => e = .returned (.bool (decide (l.Pairwise (· ≤ ·)))) ∧ ∃ q, w' = w.drewN q := by
  have HL := Lib.hid hl
  clear hl
  generalize hres : decide (l.Pairwise (· ≤ ·)) = res
  have Hres := Lib.hid hres
  clear hres
  go_enter Tryd.func15, Tryd.ntmps15
  go_wp2
  go_loopw [3] (fun v3 wr => ∃ (iz : Int) (i q : Nat), v3 = .int .i64 iz ∧ (0 < iz → iz = i ∧ i < l.length) ∧ (¬ 0 < iz → i = 0) ∧ wr = w.drewN q ∧ Hid ((l.drop i).Pairwise (· ≤ ·))) (fun v3 _ => (intOf v3).toNat)
  case atStart =>
    refine ⟨(l.length : Int) - 1, l.length - 1, 0, by go_num, fun h => ⟨by omega, by omega⟩, fun h => by omega, rfl, Lib.hid ?_⟩
    rcases Nat.eq_zero_or_pos l.length with h0 | h0
    · rw [List.eq_nil_of_length_eq_zero h0]; simp
    · have e1 : l.drop (l.length - 1) = l[l.length - 1] :: l.drop (l.length - 1 + 1) := List.drop_eq_getElem_cons (by omega)
      rw [e1, List.drop_eq_nil_of_le (by omega)]
      simp
  case round =>
    obtain ⟨iz, i, q, rfl, h1', h2', rfl, HE⟩ := hrel
    by_cases hlt : 0 < iz
    · obtain ⟨rfl, hin⟩ := h1' hlt
      obtain ⟨t, rfl⟩ : ∃ t, i = t + 1 := ⟨i - 1, by omega⟩
      clear h1' h2'
      have hqz : ((t + 1 : Nat) : Int) = (t : Int) + 1 := by omega
      rw [hqz] at hlt ⊢
      obtain ⟨g, off, rfl, hg, hc⟩ := HL.out (List.length_pos_iff.1 (by omega))
      have c1 : ∀ n, ((w.drewN q).drewN n).cell? ⟨g, off + (t + 1), none⟩ = some ((Value.int .i64) l[t + 1]) := fun n => by simpa using hc (t + 1) l[t + 1] (by simp [hin])
      have c2 : ∀ n, ((w.drewN q).drewN n).cell? ⟨g, off + t, none⟩ = some ((Value.int .i64) l[t]) := fun n => by simpa using hc t l[t] (List.getElem?_eq_getElem (by omega))
      have Hstep := Lib.hid (fun h => sorted_step hin HE.out h)
      have Hnot := Lib.hid (fun h => sorted_not hin h)
      clear hc
      generalize hW : w.drewN q = W at c1 c2 ⊢
      have HW := Lib.hid hW
      clear hW
      generalize l[t + 1] = x at *
      generalize l[t] = y at *
      obtain ⟨i1, hi1⟩ : ∃ q, q = t + 1 := ⟨_, rfl⟩
      obtain ⟨j1, hj1⟩ : ∃ q, q = t := ⟨_, rfl⟩
      have ea : ((t : Int) + 1).toNat = i1 := by omega
      have pa : (0 : Int) ≤ (t : Int) + 1 := by omega
      have ba : (t : Int) + 1 < (l.length : Int) := by omega
      have ra : IntKind.i64.wrap ((t : Int) + 1) = (t : Int) + 1 := by rw [IntKind.wrap_i64]; omega
      have ec : ((t : Int)).toNat = j1 := by omega
      have pc : (0 : Int) ≤ (t : Int) := by omega
      have bc : (t : Int) < (l.length : Int) := by omega
      have rc : IntKind.i64.wrap ((t : Int)) = (t : Int) := by rw [IntKind.wrap_i64]; omega
      have la : ∀ n, (W.drewN n).cell? ⟨g, off + i1, none⟩ = some ((Value.int .i64) x) := by rw [hi1]; exact c1
      have lb : ∀ n, (W.drewN n).cell? ⟨g, off + j1, none⟩ = some ((Value.int .i64) y) := by rw [hj1]; exact c2
      clear hi1 hj1 c1 c2
      cases hlv : decide (x < y) with
      | true =>
        have hv := of_decide_eq_true hlv
        go_wp2_with fail
        go_quiet (first | (go_at_call 25; refine Calls.quiet_of_same (Tryd.cmp_Less_int2 _ _ _)))
        clear la lb ea ec
        go_wp2
        go_ret
        refine ⟨?_, q + nq, by rw [← HW.out, World.drewN_drewN]⟩
        have : res = false := by rw [← Hres.out]; exact decide_eq_false (Hnot.out (by omega))
        rw [this]
        rfl
      | false =>
        have hv := of_decide_eq_false hlv
        go_wp2_with fail
        go_quiet (first | (go_at_call 25; refine Calls.quiet_of_same (Tryd.cmp_Less_int2 _ _ _)))
        clear la lb ea ec
        go_wp2
        go_roundw
        case rel => exact ⟨(t : Int), t, q + nq, by go_num, fun h => ⟨rfl, by omega⟩, fun h => by omega, by rw [← HW.out, World.drewN_drewN], Lib.hid (Hstep.out (by omega))⟩
        case measure => simp [intOf]
    · have hi0 := h2' hlt
      subst hi0
      go_wp2
      go_ret
      have : res = true := by rw [← Hres.out]; exact decide_eq_true (by simpa using HE.out)
      rw [this]
      exact ⟨rfl, q, rfl⟩

theorem sorted_keeps (A : Option Addr) (cap : Nat) (l : List Int) (w : World) (hl : IntsAt w A l) (hlen : l.length ≤ 1000000000000) :
    Calls Tryd.prog 15 #[.slice A l.length cap] w fun e w' => e = .returned (.bool (decide (l.Pairwise (· ≤ ·)))) ∧ Keeps (fun _ => False) w w' :=
  (sorted_calls A cap l w hl hlen).mono fun _ _ h => ⟨h.1, by obtain ⟨_, q, rfl⟩ := h; exact (Keeps.refl _ _).drewN q⟩

end
end Go.Proofs.YtfpjdgobannneaaDoor

/-
  Whether a machine is right (mach.Right): its contract.
-/
namespace Go.Proofs.YtfpjdgobannneaaDoor
open Go Go.RowKit Go.Proofs.YtfpjdgobannneaaDoorW.PrintLast Go.Proofs.YtfpjdgobannneaaDoorW.PrintWords
set_option linter.unusedSimpArgs false

/-- a machine's value -/
def Mch.V (m : Mch) (A : Option Addr) (ca : Nat) (S : Option Addr) (cs : Nat) : Value := .agg #[.int .i64 m.regs, .slice A m.args.length ca, .int .i64 m.ret, .slice S m.saved.length cs]

/-- what Right tells -/
def RightPost (m : Mch) (w : World) (e : Ending) (w' : World) : Prop := ∃ r, e = .returned (.bool r) ∧ (r = true ↔ RightM m) ∧ Keeps (fun _ => False) w w'

/-- the cells of an empty set, one by one -/
def z64 : Array Value := #[.bool false, .bool false, .bool false, .bool false, .bool false, .bool false, .bool false, .bool false, .bool false, .bool false, .bool false, .bool false, .bool false, .bool false, .bool false, .bool false, .bool false, .bool false, .bool false, .bool false, .bool false, .bool false, .bool false, .bool false, .bool false, .bool false, .bool false, .bool false, .bool false, .bool false, .bool false, .bool false, .bool false, .bool false, .bool false, .bool false, .bool false, .bool false, .bool false, .bool false, .bool false, .bool false, .bool false, .bool false, .bool false, .bool false, .bool false, .bool false, .bool false, .bool false, .bool false, .bool false, .bool false, .bool false, .bool false, .bool false, .bool false, .bool false, .bool false, .bool false, .bool false, .bool false, .bool false, .bool false]

theorem z64_eq : z64 = setC [] := by kernel_rfl

theorem z64_size : z64.size = 64 := by kernel_rfl

theorem set_store (w : World) (seen : List Int) : (storeCells ⟨w.heap.size, 0, none⟩ (setC seen).toList 0).run Tryd.prog (w.alloc (.cells z64 42)) = .ok () (w.alloc (.cells (setC seen) 42)) :=
  run_storeCells_new w 42 z64 (setC seen) (setC_info _) (by rw [setC_size]; rfl) (setC_one _)

theorem addr_at (g off j : Nat) : (⟨g, off, none⟩ : Addr).add (j * (Kd.int .i64).sz + 0) = ⟨g, off + j, none⟩ := by
  have e : j * (Kd.int .i64).sz + 0 = j := by show j * 1 + 0 = j; omega
  rw [e]
  unfold Addr.add
  split <;> simp_all

theorem reps_one (x : Int) (R : Int → List Value → Prop) (h : R x [.int .i64 x]) : Reps R (Kd.int .i64).sz [x] [.int .i64 x] := by
  refine ⟨rfl, fun j p hj => ?_⟩
  cases j with
  | zero =>
    have hp : x = p := by simpa using hj
    subst hp
    exact h
  | succ j => simp at hj

theorem reads_of {w : World} {A : Option Addr} {xs : List Int} (h : IntsAt w A xs) (hl : xs.length ≤ 1000000000) : ReadsRow (fun (x : Int) (cs : List Value) => cs = [.int .i64 x]) (Kd.int .i64).sz w A xs.length xs := by
  refine ⟨rfl, by omega, fun hp => ?_⟩
  obtain ⟨g, off, rfl, hg, hc⟩ := h (List.length_pos_iff.1 hp)
  refine ⟨_, rfl, fun j p hj => ⟨[.int .i64 p], rfl, rfl, fun i u hi => ?_⟩⟩
  cases i with
  | zero =>
    have hu : Value.int .i64 p = u := by simpa using hi
    subst hu
    have := hc j p hj
    have e : (⟨g, off, none⟩ : Addr).add (j * (Kd.int .i64).sz + 0) = ⟨g, off + j, none⟩ := addr_at g off j
    rw [e]
    exact this
  | succ i => simp at hi

theorem intsAt_of_R {e : Nat} {w : World} {base : Nat} {ok : Nat → Prop} {A : Option Addr} {c : Nat} {xs : List Int} (h : (Kd.int .i64).R e w base ok (.slice A xs.length c) xs) : IntsAt w A xs := by
  intro hne
  have hp : 0 < xs.length := List.length_pos_iff.2 hne
  obtain ⟨g, cap, he, hb, hg, cells, hc⟩ := Kd.R_form h hp
  obtain ⟨_, _, hr⟩ := Kd.R_reads' h
  injection he with e1 e2 e3
  subst e1
  refine ⟨g, 0, rfl, hg, fun j x hj => ?_⟩
  obtain ⟨ad, ha, hq⟩ := hr.2.2 hp
  obtain ⟨c, hl, hk, hcell⟩ := hq j x hj
  have hk2 : c = [.int .i64 x] := hk
  subst hk2
  have := hcell 0 _ rfl
  injection ha with ha
  subst ha
  have e : (⟨g, 0, none⟩ : Addr).add (j * (Kd.int .i64).sz + 0) = ⟨g, 0 + j, none⟩ := addr_at g 0 j
  rw [e] at this
  exact this

theorem exec_store {o : Oper} {ev : Operand → Value} {W W' : World} {T : TypeId} {p q : Operand} {pv qv : Value} (ho : o.op = .store T p q) (hp : ev p = pv) (hq : ev q = qv) (hrun : (Instr.storeAt T pv qv).run Tryd.prog W = .ok () W') :
    (execOp ev o).run Tryd.prog W = .ok .skip W' := by
  unfold execOp
  simp [ho, hp, hq, hrun, Result.andThen, Sem.run_bind, Sem.run_pure]

theorem set_store_at (w : World) (g : Nat) (old : Array Value) (seen : List Int) (hg : w.heap[g]? = some (.cells old 42 (0, 0))) (ho : old.size = 64) :
    (Instr.storeAt 42 (.pointer (some ⟨g, 0, none⟩)) (.agg (setC seen))).run Tryd.prog w = .ok () (w.setRow g (setC seen)) := by
  simp only [Instr.storeAt, Instr.sureAddr, Sem.run_bind, Sem.run_pure, Result.andThen]
  exact run_storeVar_row w g _ _ old _ hg (setC_info _) (by rw [ho, setC_size]) (setC_one _)

section
set_option maxRecDepth 100000
set_option maxHeartbeats 4000000

theorem right_calls (m : Mch) (A : Option Addr) (ca : Nat) (S : Option Addr) (cs : Nat) (w : World) (hA : IntsAt w A m.args) (hS : IntsAt w S m.saved) (hla : m.args.length ≤ 1000000000) (hls : m.saved.length ≤ 1000000000) :
    Calls Tryd.prog 7 #[m.V A ca S cs] w (RightPost m w) := by
  obtain ⟨regs, args, ret, saved⟩ := m
  simp only at hA hS hla hls
  simp only [Mch.V]
  have HA := Lib.hid hA
  have HS := Lib.hid hS
  have Hls := Lib.hid hls
  clear hA hS
  have hob := blk_new w (.cells #[.int .i64 regs, .slice A args.length ca, .int .i64 ret, .slice S saved.length cs] 24)
  have y0 : (w.alloc (.cells #[.int .i64 regs, .slice A args.length ca, .int .i64 ret, .slice S saved.length cs] 24)).cell? ⟨w.heap.size, 0, none⟩ = some (.int .i64 regs) := (blk_cell hob 0).trans rfl
  have y1 : (w.alloc (.cells #[.int .i64 regs, .slice A args.length ca, .int .i64 ret, .slice S saved.length cs] 24)).cell? ⟨w.heap.size, 1, none⟩ = some (.slice A args.length ca) := (blk_cell hob 1).trans rfl
  have y2 : (w.alloc (.cells #[.int .i64 regs, .slice A args.length ca, .int .i64 ret, .slice S saved.length cs] 24)).cell? ⟨w.heap.size, 2, none⟩ = some (.int .i64 ret) := (blk_cell hob 2).trans rfl
  have y3 : (w.alloc (.cells #[.int .i64 regs, .slice A args.length ca, .int .i64 ret, .slice S saved.length cs] 24)).cell? ⟨w.heap.size, 3, none⟩ = some (.slice S saved.length cs) := (blk_cell hob 3).trans rfl
  have hk := (Keeps.refl (fun _ => False) w).alloc (.cells #[.int .i64 regs, .slice A args.length ca, .int .i64 ret, .slice S saved.length cs] 24)
  have HK := Lib.hid hk
  clear hob hk
  have no : ¬ RightM ⟨regs, args, ret, saved⟩ → (false = true ↔ RightM ⟨regs, args, ret, saved⟩) := fun h2 => ⟨fun h => (by cases h), fun h => absurd h h2⟩
  have No := Lib.hid no
  clear no
  go_enter Tryd.func7, Tryd.ntmps7
  by_cases h1 : regs < 1
  · go_wp2
    go_ret
    exact ⟨false, rfl, No.out (fun h => by have := h.1; simp only at this; omega), HK.out⟩
  · by_cases h2 : 64 < regs
    · go_wp2
      go_ret
      exact ⟨false, rfl, No.out (fun h => by have := h.2.1; simp only at this; omega), HK.out⟩
    · by_cases h3 : 8 < args.length
      · have h3' : (8 : Int) < args.length := by omega
        go_wp2
        go_ret
        exact ⟨false, rfl, No.out (fun h => by have := h.2.2.1; simp only at this; omega), HK.out⟩
      · have h3' : ¬ (8 : Int) < args.length := by omega
        by_cases h4 : regs < saved.length
        · go_wp2
          go_ret
          exact ⟨false, rfl, No.out (fun h => by have := h.2.2.2.1; simp only at this; omega), HK.out⟩
        · by_cases h5 : saved.Pairwise (· ≤ ·)
          · have h5' : decide (saved.Pairwise (· ≤ ·)) = true := decide_eq_true h5
            have Hfin := Lib.hid (fun (ok ok2 : Bool) (q : ok = true ↔ RegsOk regs args) (q2 : ok2 = true ↔ RegsOk regs ([ret] ++ saved)) => show (ok && ok2) = true ↔ RightM ⟨regs, args, ret, saved⟩ from by
              rw [Bool.and_eq_true, q, q2]
              exact ⟨fun h => ⟨by simp only; omega, by simp only; omega, by simp only; omega, by simp only; omega, h5, h.1, h.2⟩, fun h => ⟨h.2.2.2.2.2.1, h.2.2.2.2.2.2⟩⟩)
            have H5 := Lib.hid h5'
            clear h5'
            go_wp2_with (first | (go_at_call 15; have m5 := sorted_keeps S cs saved _ (HS.out.keep0 HK.out) (by have := Hls.out; omega); rw [H5.out] at m5; refine m5.mono ?_; clear m5; rintro e w5 ⟨rfl, k5⟩; have z0 := k5.cell' y0 (by simp); have z1 := k5.cell' y1 (by simp); have z2 := k5.cell' y2 (by simp); have z3 := k5.cell' y3 (by simp); have K5 := Lib.hid (HK.out.trans k5); have hs5 : w.heap.size < w5.heap.size := Nat.lt_of_lt_of_le (by simp) k5.size; clear k5) | (go_at_call 16; refine (of_calls regs (by omega) A ca args _ (HA.out.keep0 K5.out) (by omega)).mono ?_; rintro e w6 ⟨seen, ok, rfl, hok, hseen, k6⟩; have H6 := Lib.hid hok; have x0 := k6.cell' z0 (by simp); have x2 := k6.cell' z2 (by simp); have x3 := k6.cell' z3 (by simp); have K6 := Lib.hid (K5.out.trans k6); have hs6 : w.heap.size < w6.heap.size := Nat.lt_of_lt_of_le hs5 k6.size; have hst := set_store w6 seen; unfold z64 at hst; clear hok hseen k6 z0 z1 z2 z3 hs5 K5))
            clear hst
            have x0 := ((Keeps.refl (fun _ => False) w6).alloc (.cells (setC seen) 42)).cell' x0 (by simp)
            have x2 := ((Keeps.refl (fun _ => False) w6).alloc (.cells (setC seen) 42)).cell' x2 (by simp)
            have x3 := ((Keeps.refl (fun _ => False) w6).alloc (.cells (setC seen) 42)).cell' x3 (by simp)
            have K4 := Lib.hid (K6.out.alloc (.cells (setC seen) 42))
            have hs4 : w.heap.size < (w6.alloc (.cells (setC seen) 42)).heap.size := by simp; omega
            generalize w6.alloc (.cells (setC seen) 42) = W4 at *
            clear y0 y1 y2 y3 HK K6 hs6
            refine start_ (n := 15) (S := (fun w' => w'.cell? ⟨w.heap.size, 0, none⟩ = some (.int .i64 regs) ∧ w'.cell? ⟨w.heap.size, 2, none⟩ = some (.int .i64 ret) ∧ w'.cell? ⟨w.heap.size, 3, none⟩ = some (.slice S saved.length cs))) (ds := []) #[false, false, false, false, false, false, false, false, false, false, false, false, false, false, false] (by kernel_rfl) rfl rfl (by exact ⟨x0, x2, x3⟩) (fun hHeld => ?_)
            have KU := Lib.hid K4.out.drew
            have hsU : w.heap.size < W4.drew.heap.size := hs4
            clear x0 x2 x3 K4 hs4
            generalize W4.drew = U at *
            have HB := Lib.hid (Below.refl U.heap.size U)
            have HSS := Lib.hid (show ∀ W', Below U.heap.size U W' → (fun w' => w'.cell? ⟨w.heap.size, 0, none⟩ = some (.int .i64 regs) ∧ w'.cell? ⟨w.heap.size, 2, none⟩ = some (.int .i64 ret) ∧ w'.cell? ⟨w.heap.size, 3, none⟩ = some (.slice S saved.length cs)) W' from fun W' hb => ⟨(Keeps.of_below hb (fun _ => False)).cell' hHeld.1 (by simp), (Keeps.of_below hb (fun _ => False)).cell' hHeld.2.1 (by simp), (Keeps.of_below hb (fun _ => False)).cell' hHeld.2.2 (by simp)⟩)
            refine pure_ (i := 0) (N := some 44) (v := ?_) (a' := ?_) #[true, false, false, false, false, false, false, false, false, false, false, false, false, false, false] rfl rfl (by kernel_rfl) (fun _ _ _ h => h) (Or.inl ⟨by rfl, ?_⟩) ?_ ?_
            rotate_left
            · intro w'
              go_simp
              with_reducible rfl
            rotate_left
            · simp only [Act.put, List.setIfInBounds_toArray, List.set_cons_zero, List.set_cons_succ]
              rfl
            refine take_ (i := 1) (N := some 45) (v := ?_) (a' := ?_) #[true, true, false, false, false, false, false, false, false, false, false, false, false, false, false] rfl rfl (by kernel_rfl) (fun _ _ _ h => h) (Or.inl ⟨by rfl, ?_⟩) hHeld ?_ ?_
            rotate_left
            · intro w' hSw
              obtain ⟨hs0, hs1, hs2⟩ := hSw
              go_simp
              with_reducible rfl
            rotate_left
            · simp only [Act.put, List.setIfInBounds_toArray, List.set_cons_zero, List.set_cons_succ]
              rfl
            refine pure_ (i := 2) (N := some 46) (v := ?_) (a' := ?_) #[true, true, true, false, false, false, false, false, false, false, false, false, false, false, false] rfl rfl (by kernel_rfl) (fun _ _ _ h => h) (Or.inl ⟨by rfl, ?_⟩) ?_ ?_
            rotate_left
            · intro w'
              go_simp
              with_reducible rfl
            rotate_left
            · simp only [Act.put, List.setIfInBounds_toArray, List.set_cons_zero, List.set_cons_succ]
              rfl
            refine take_ (i := 3) (N := some 47) (v := ?_) (a' := ?_) #[true, true, true, true, false, false, false, false, false, false, false, false, false, false, false] rfl rfl (by kernel_rfl) (fun _ _ _ h => h) (Or.inl ⟨by rfl, ?_⟩) hHeld ?_ ?_
            rotate_left
            · intro w' hSw
              obtain ⟨hs0, hs1, hs2⟩ := hSw
              go_simp
              with_reducible rfl
            rotate_left
            · simp only [Act.put, List.setIfInBounds_toArray, List.set_cons_zero, List.set_cons_succ]
              rfl
            refine pure_ (i := 5) (N := some 49) (v := ?_) (a' := ?_) #[true, true, true, true, false, true, false, false, false, false, false, false, false, false, false] rfl rfl (by kernel_rfl) (fun _ _ _ h => h) (Or.inl ⟨by rfl, ?_⟩) ?_ ?_
            rotate_left
            · intro w'
              go_simp
              with_reducible rfl
            rotate_left
            · simp only [Act.put, List.setIfInBounds_toArray, List.set_cons_zero, List.set_cons_succ]
              rfl
            refine take_ (i := 6) (N := some 50) (v := ?_) (a' := ?_) #[true, true, true, true, false, true, true, false, false, false, false, false, false, false, false] rfl rfl (by kernel_rfl) (fun _ _ _ h => h) (Or.inl ⟨by rfl, ?_⟩) hHeld ?_ ?_
            rotate_left
            · intro w' hSw
              obtain ⟨hs0, hs1, hs2⟩ := hSw
              go_simp
              with_reducible rfl
            rotate_left
            · simp only [Act.put, List.setIfInBounds_toArray, List.set_cons_zero, List.set_cons_succ]
              rfl
            refine two_ (i := 4) (j := 12) (Ni := some 48) (Nj := some 5) #[true, true, true, true, true, true, true, false, false, false, false, false, false, false, false] #[true, true, true, true, false, true, true, false, false, false, false, false, true, false, false] rfl rfl rfl rfl (by kernel_rfl) (by decide) (by decide) (fun K hK => ?_) (fun K hK => ?_)
            · refine Kd.R_lit_step (Kd.int .i64) (w0 := U) U.heap.size 3 (by rfl) rfl (xs := [ret]) (inner := [.int .i64 ret]) (ok := fun _ => True) (okp := fun _ => False) (by go_simp) (reps_one ret _ rfl) (fun _ h => h.elim) trivial HB.out HB.out.size (by simp) ?_
              intro v1 W1 hR hb hg hat
              show K (Act.put _ (some 48) _) _
              refine hK.out _ _ (HSS.out _ hb) (fun hHeld => ?_)
              have HR := Lib.hid hR
              clear hR hg hat
              replace HB := Lib.hid hb
              clear hb
              clear hK K
              refine norm_ (a' := ?na2004) ?nb2004 ?nc2004
              case nb2004 =>
                simp only [Act.put, List.setIfInBounds_toArray, List.set_cons_zero, List.set_cons_succ]
                rfl
              refine two_ (i := 7) (j := 12) (Ni := some 51) (Nj := some 5) #[true, true, true, true, true, true, true, true, false, false, false, false, false, false, false] #[true, true, true, true, true, true, true, false, false, false, false, false, true, false, false] rfl rfl rfl rfl (by kernel_rfl) (by decide) (by decide) (fun K hK => ?_) (fun K hK => ?_)
              · refine Kd.R_append_rows_step (Kd.int .i64) (Rr := fun x cs => cs = [.int .i64 x]) (w0 := U) U.heap.size (by rfl) (.tmp 48) (.tmp 50) 22 3 (.int .i64 0) 8 rfl Tryd.underlying22 info_int' rfl (by decide) (by decide) _ [ret] saved S saved.length cs (fun _ => True) (fun _ => False) rfl rfl HR.out (reads_of (HS.out.keep0 (KU.out.trans (Keeps.of_below HB.out _))) Hls.out) (fun _ _ h => h) (fun _ h => h.elim) (fun _ _ => trivial) HB.out HB.out.size (by have := Hls.out; simp; omega) ?_
                intro v3 W3 hR hb hg hat
                show K (Act.put _ (some 51) _) _
                refine hK.out _ _ (HSS.out _ hb) (fun hHeld => ?_)
                replace HR := Lib.hid hR
                clear hR hg hat
                replace HB := Lib.hid hb
                clear hb
                clear hK K
                refine norm_ (a' := ?na4007) ?nb4007 ?nc4007
                case nb4007 =>
                  simp only [Act.put, List.setIfInBounds_toArray, List.set_cons_zero, List.set_cons_succ]
                  rfl
                refine two_ (i := 8) (j := 12) (Ni := some 52) (Nj := some 5) #[true, true, true, true, true, true, true, true, true, false, false, false, false, false, false] #[true, true, true, true, true, true, true, true, false, false, false, false, true, false, false] rfl rfl rfl rfl (by kernel_rfl) (by decide) (by decide) (fun K hK => ?_) (fun K hK => ?_)
                · obtain ⟨A5, c5, rfl, hle, _⟩ := Kd.R_reads HR.out
                  have HI := Lib.hid (intsAt_of_R HR.out)
                  refine goes_ (f := 16) Tryd.func16 (by kernel_rfl) rfl #[.int .i64 regs, .slice A5 ([ret] ++ saved).length c5] (by rfl) rfl rfl (by simp only [List.map_toArray, List.map_cons, List.map_nil]; rfl) ?_
                  refine (of_calls regs (by omega) A5 c5 ([ret] ++ saved) _ HI.out (by have := Hls.out; simp; omega)).mono ?_
                  rintro e W5 ⟨seen2, ok2, rfl, h8, hs8, k8⟩
                  have hb := HB.out.trans (k8.below HB.out.size (fun _ _ h => h))
                  have H8 := Lib.hid h8
                  refine ⟨_, rfl, ?_⟩
                  refine hK.out _ _ (HSS.out _ hb) (fun hHeld => ?_)
                  clear HR HI hle h8 hs8 k8
                  replace HB := Lib.hid hb
                  clear hb
                  clear hK K
                  refine norm_ (a' := ?na6008) ?nb6008 ?nc6008
                  case nb6008 =>
                    simp only [Act.put, List.setIfInBounds_toArray, List.set_cons_zero, List.set_cons_succ]
                    rfl
                  refine pure_ (i := 9) (N := some 43) (v := ?_) (a' := ?_) #[true, true, true, true, true, true, true, true, true, true, false, false, false, false, false] rfl rfl (by kernel_rfl) (fun _ _ _ h => h) (Or.inl ⟨by rfl, ?_⟩) ?_ ?_
                  rotate_left
                  · intro w'
                    go_simp
                    with_reducible rfl
                  rotate_left
                  · simp only [Act.put, List.setIfInBounds_toArray, List.set_cons_zero, List.set_cons_succ]
                    rfl
                  refine pure_ (i := 10) (N := some 53) (v := ?_) (a' := ?_) #[true, true, true, true, true, true, true, true, true, true, true, false, false, false, false] rfl rfl (by kernel_rfl) (fun _ _ _ h => h) (Or.inl ⟨by rfl, ?_⟩) ?_ ?_
                  rotate_left
                  · intro w'
                    go_simp
                    with_reducible rfl
                  rotate_left
                  · simp only [Act.put, List.setIfInBounds_toArray, List.set_cons_zero, List.set_cons_succ]
                    rfl
                  refine pure_ (i := 11) (N := some 54) (v := ?_) (a' := ?_) #[true, true, true, true, true, true, true, true, true, true, true, true, false, false, false] rfl rfl (by kernel_rfl) (fun _ _ _ h => h) (Or.inl ⟨by rfl, ?_⟩) ?_ ?_
                  rotate_left
                  · intro w'
                    go_simp
                    with_reducible rfl
                  rotate_left
                  · simp only [Act.put, List.setIfInBounds_toArray, List.set_cons_zero, List.set_cons_succ]
                    rfl
                  refine one_ (i := 12) (N := some 5) #[true, true, true, true, true, true, true, true, true, true, true, true, true, false, false] rfl rfl (by kernel_rfl) (by decide) (fun K hK => ?_)
                  refine value_ (v := .pointer (some ⟨W5.heap.size, 0, none⟩)) (w1 := W5.alloc (.cells z64 42)) (by rfl) rfl (by go_simp; rfl) ?_
                  have hb := HB.out.alloc HB.out.size (.cells z64 42)
                  have HP := Lib.hid (show (W5.alloc (.cells z64 42)).heap[W5.heap.size]? = some (.cells z64 42 (0, 0)) ∧ U.heap.size ≤ W5.heap.size ∧ W5.heap.size < (W5.alloc (.cells z64 42)).heap.size from ⟨blk_new _ _, HB.out.size, by simp⟩)
                  generalize W5.alloc (.cells z64 42) = W7 at *
                  refine hK.out _ _ (HSS.out _ hb) (fun hHeld => ?_)
                  replace HB := Lib.hid hb
                  clear hb
                  clear hK K
                  refine norm_ (a' := ?na8012) ?nb8012 ?nc8012
                  case nb8012 =>
                    simp only [Act.put, List.setIfInBounds_toArray, List.set_cons_zero, List.set_cons_succ]
                    rfl
                  refine one_ (i := 13) (N := none) #[true, true, true, true, true, true, true, true, true, true, true, true, true, true, false] rfl rfl (by kernel_rfl) (by decide) (fun K hK => ?_)
                  have hb := below_setRow HB.out HP.out.2.1 (setC seen2)
                  have hrun := set_store_at W7 (W5.heap.size) z64 seen2 HP.out.1 z64_size
                  refine skip_ (w1 := W7.setRow (W5.heap.size) (setC seen2)) (by rfl) rfl (exec_store (T := 42) (p := .tmp 5) (q := .tmp 53) (pv := .pointer (some ⟨W5.heap.size, 0, none⟩)) (qv := .agg (setC seen2)) rfl (by rfl) (by rfl) hrun) ?_
                  clear hrun
                  refine hK.out _ _ (HSS.out _ hb) (fun hHeld => ?_)
                  replace HB := Lib.hid hb
                  clear hb
                  clear hK K
                  refine pure_ (i := 14) (N := some 6) (v := ?_) (a' := ?_) #[true, true, true, true, true, true, true, true, true, true, true, true, true, true, true] rfl rfl (by kernel_rfl) (fun _ _ _ h => h) (Or.inl ⟨by rfl, ?_⟩) ?_ ?_
                  rotate_left
                  · intro w'
                    go_simp
                    with_reducible rfl
                  rotate_left
                  · simp only [Act.put, List.setIfInBounds_toArray, List.set_cons_zero, List.set_cons_succ]
                    rfl
                  refine done_ (by kernel_rfl) ?_
                  have HF := Lib.hid (Hfin.out _ _ H6.out H8.out)
                  have KF := Lib.hid (KU.out.trans (Keeps.of_below HB.out _))
                  clear hHeld H6 H8 Hfin HB KU
                  cases ok with
                  | true =>
                    go_wp2
                    go_ret
                    exact ⟨_, rfl, HF.out, KF.out⟩
                  | false =>
                    go_wp2
                    go_ret
                    exact ⟨_, rfl, HF.out, KF.out⟩
                · refine value_ (v := .pointer (some ⟨W3.heap.size, 0, none⟩)) (w1 := W3.alloc (.cells z64 42)) (by rfl) rfl (by go_simp; rfl) ?_
                  have hb := HB.out.alloc HB.out.size (.cells z64 42)
                  have HP := Lib.hid (show (W3.alloc (.cells z64 42)).heap[W3.heap.size]? = some (.cells z64 42 (0, 0)) ∧ U.heap.size ≤ W3.heap.size ∧ W3.heap.size < (W3.alloc (.cells z64 42)).heap.size from ⟨blk_new _ _, HB.out.size, by simp⟩)
                  have hR := Kd.R_alloc HR.out (.cells z64 42)
                  generalize W3.alloc (.cells z64 42) = W10 at *
                  refine hK.out _ _ (HSS.out _ hb) (fun hHeld => ?_)
                  replace HR := Lib.hid hR
                  clear hR
                  replace HB := Lib.hid hb
                  clear hb
                  clear hK K
                  refine norm_ (a' := ?na11012) ?nb11012 ?nc11012
                  case nb11012 =>
                    simp only [Act.put, List.setIfInBounds_toArray, List.set_cons_zero, List.set_cons_succ]
                    rfl
                  refine one_ (i := 8) (N := some 52) #[true, true, true, true, true, true, true, true, true, false, false, false, true, false, false] rfl rfl (by kernel_rfl) (by decide) (fun K hK => ?_)
                  obtain ⟨A12, c12, rfl, hle, _⟩ := Kd.R_reads HR.out
                  have HI := Lib.hid (intsAt_of_R HR.out)
                  refine goes_ (f := 16) Tryd.func16 (by kernel_rfl) rfl #[.int .i64 regs, .slice A12 ([ret] ++ saved).length c12] (by rfl) rfl rfl (by simp only [List.map_toArray, List.map_cons, List.map_nil]; rfl) ?_
                  refine (of_calls regs (by omega) A12 c12 ([ret] ++ saved) _ HI.out (by have := Hls.out; simp; omega)).mono ?_
                  rintro e W12 ⟨seen2, ok2, rfl, h8, hs8, k8⟩
                  have hb := HB.out.trans (k8.below HB.out.size (fun _ _ h => h))
                  have H8 := Lib.hid h8
                  refine ⟨_, rfl, ?_⟩
                  refine hK.out _ _ (HSS.out _ hb) (fun hHeld => ?_)
                  have HP2 := Lib.hid (show W12.heap[W3.heap.size]? = some (.cells z64 42 (0, 0)) ∧ U.heap.size ≤ W3.heap.size ∧ W3.heap.size < W12.heap.size from ⟨k8.heap HP.out.1 (by simp), HP.out.2.1, Nat.lt_of_lt_of_le HP.out.2.2 k8.size⟩)
                  replace HP := HP2
                  clear HP2
                  clear HR HI hle h8 hs8 k8
                  replace HB := Lib.hid hb
                  clear hb
                  clear hK K
                  refine norm_ (a' := ?na13008) ?nb13008 ?nc13008
                  case nb13008 =>
                    simp only [Act.put, List.setIfInBounds_toArray, List.set_cons_zero, List.set_cons_succ]
                    rfl
                  refine pure_ (i := 9) (N := some 43) (v := ?_) (a' := ?_) #[true, true, true, true, true, true, true, true, true, true, false, false, true, false, false] rfl rfl (by kernel_rfl) (fun _ _ _ h => h) (Or.inl ⟨by rfl, ?_⟩) ?_ ?_
                  rotate_left
                  · intro w'
                    go_simp
                    with_reducible rfl
                  rotate_left
                  · simp only [Act.put, List.setIfInBounds_toArray, List.set_cons_zero, List.set_cons_succ]
                    rfl
                  refine pure_ (i := 10) (N := some 53) (v := ?_) (a' := ?_) #[true, true, true, true, true, true, true, true, true, true, true, false, true, false, false] rfl rfl (by kernel_rfl) (fun _ _ _ h => h) (Or.inl ⟨by rfl, ?_⟩) ?_ ?_
                  rotate_left
                  · intro w'
                    go_simp
                    with_reducible rfl
                  rotate_left
                  · simp only [Act.put, List.setIfInBounds_toArray, List.set_cons_zero, List.set_cons_succ]
                    rfl
                  refine pure_ (i := 11) (N := some 54) (v := ?_) (a' := ?_) #[true, true, true, true, true, true, true, true, true, true, true, true, true, false, false] rfl rfl (by kernel_rfl) (fun _ _ _ h => h) (Or.inl ⟨by rfl, ?_⟩) ?_ ?_
                  rotate_left
                  · intro w'
                    go_simp
                    with_reducible rfl
                  rotate_left
                  · simp only [Act.put, List.setIfInBounds_toArray, List.set_cons_zero, List.set_cons_succ]
                    rfl
                  refine one_ (i := 13) (N := none) #[true, true, true, true, true, true, true, true, true, true, true, true, true, true, false] rfl rfl (by kernel_rfl) (by decide) (fun K hK => ?_)
                  have hb := below_setRow HB.out HP.out.2.1 (setC seen2)
                  have hrun := set_store_at W12 (W3.heap.size) z64 seen2 HP.out.1 z64_size
                  refine skip_ (w1 := W12.setRow (W3.heap.size) (setC seen2)) (by rfl) rfl (exec_store (T := 42) (p := .tmp 5) (q := .tmp 53) (pv := .pointer (some ⟨W3.heap.size, 0, none⟩)) (qv := .agg (setC seen2)) rfl (by rfl) (by rfl) hrun) ?_
                  clear hrun
                  refine hK.out _ _ (HSS.out _ hb) (fun hHeld => ?_)
                  replace HB := Lib.hid hb
                  clear hb
                  clear hK K
                  refine pure_ (i := 14) (N := some 6) (v := ?_) (a' := ?_) #[true, true, true, true, true, true, true, true, true, true, true, true, true, true, true] rfl rfl (by kernel_rfl) (fun _ _ _ h => h) (Or.inl ⟨by rfl, ?_⟩) ?_ ?_
                  rotate_left
                  · intro w'
                    go_simp
                    with_reducible rfl
                  rotate_left
                  · simp only [Act.put, List.setIfInBounds_toArray, List.set_cons_zero, List.set_cons_succ]
                    rfl
                  refine done_ (by kernel_rfl) ?_
                  have HF := Lib.hid (Hfin.out _ _ H6.out H8.out)
                  have KF := Lib.hid (KU.out.trans (Keeps.of_below HB.out _))
                  clear hHeld H6 H8 Hfin HB KU
                  cases ok with
                  | true =>
                    go_wp2
                    go_ret
                    exact ⟨_, rfl, HF.out, KF.out⟩
                  | false =>
                    go_wp2
                    go_ret
                    exact ⟨_, rfl, HF.out, KF.out⟩
              · refine value_ (v := .pointer (some ⟨W1.heap.size, 0, none⟩)) (w1 := W1.alloc (.cells z64 42)) (by rfl) rfl (by go_simp; rfl) ?_
                have hb := HB.out.alloc HB.out.size (.cells z64 42)
                have HP := Lib.hid (show (W1.alloc (.cells z64 42)).heap[W1.heap.size]? = some (.cells z64 42 (0, 0)) ∧ U.heap.size ≤ W1.heap.size ∧ W1.heap.size < (W1.alloc (.cells z64 42)).heap.size from ⟨blk_new _ _, HB.out.size, by simp⟩)
                have hR := Kd.R_alloc HR.out (.cells z64 42)
                generalize W1.alloc (.cells z64 42) = W15 at *
                refine hK.out _ _ (HSS.out _ hb) (fun hHeld => ?_)
                replace HR := Lib.hid hR
                clear hR
                replace HB := Lib.hid hb
                clear hb
                clear hK K
                refine norm_ (a' := ?na16012) ?nb16012 ?nc16012
                case nb16012 =>
                  simp only [Act.put, List.setIfInBounds_toArray, List.set_cons_zero, List.set_cons_succ]
                  rfl
                refine one_ (i := 7) (N := some 51) #[true, true, true, true, true, true, true, true, false, false, false, false, true, false, false] rfl rfl (by kernel_rfl) (by decide) (fun K hK => ?_)
                refine Kd.R_append_rows_step (Kd.int .i64) (Rr := fun x cs => cs = [.int .i64 x]) (w0 := U) U.heap.size (by rfl) (.tmp 48) (.tmp 50) 22 3 (.int .i64 0) 8 rfl Tryd.underlying22 info_int' rfl (by decide) (by decide) _ [ret] saved S saved.length cs (fun _ => True) (fun _ => False) rfl rfl HR.out (reads_of (HS.out.keep0 (KU.out.trans (Keeps.of_below HB.out _))) Hls.out) (fun _ _ h => h) (fun _ h => h.elim) (fun _ _ => trivial) HB.out HB.out.size (by have := Hls.out; simp; omega) ?_
                have hne := Kd.R_ne HR.out HP.out.1 (by decide)
                intro v17 W17 hR hb hg hat
                show K (Act.put _ (some 51) _) _
                refine hK.out _ _ (HSS.out _ hb) (fun hHeld => ?_)
                have HP2 := Lib.hid (show W17.heap[W1.heap.size]? = some (.cells z64 42 (0, 0)) ∧ U.heap.size ≤ W1.heap.size ∧ W1.heap.size < W17.heap.size from ⟨(hg.block _ HP.out.2.2 hne).trans HP.out.1, HP.out.2.1, Nat.lt_of_lt_of_le HP.out.2.2 hg.size⟩)
                replace HP := HP2
                clear HP2
                replace HR := Lib.hid hR
                clear hR hg hat hne
                replace HB := Lib.hid hb
                clear hb
                clear hK K
                refine norm_ (a' := ?na18007) ?nb18007 ?nc18007
                case nb18007 =>
                  simp only [Act.put, List.setIfInBounds_toArray, List.set_cons_zero, List.set_cons_succ]
                  rfl
                refine one_ (i := 8) (N := some 52) #[true, true, true, true, true, true, true, true, true, false, false, false, true, false, false] rfl rfl (by kernel_rfl) (by decide) (fun K hK => ?_)
                obtain ⟨A19, c19, rfl, hle, _⟩ := Kd.R_reads HR.out
                have HI := Lib.hid (intsAt_of_R HR.out)
                refine goes_ (f := 16) Tryd.func16 (by kernel_rfl) rfl #[.int .i64 regs, .slice A19 ([ret] ++ saved).length c19] (by rfl) rfl rfl (by simp only [List.map_toArray, List.map_cons, List.map_nil]; rfl) ?_
                refine (of_calls regs (by omega) A19 c19 ([ret] ++ saved) _ HI.out (by have := Hls.out; simp; omega)).mono ?_
                rintro e W19 ⟨seen2, ok2, rfl, h8, hs8, k8⟩
                have hb := HB.out.trans (k8.below HB.out.size (fun _ _ h => h))
                have H8 := Lib.hid h8
                refine ⟨_, rfl, ?_⟩
                refine hK.out _ _ (HSS.out _ hb) (fun hHeld => ?_)
                have HP2 := Lib.hid (show W19.heap[W1.heap.size]? = some (.cells z64 42 (0, 0)) ∧ U.heap.size ≤ W1.heap.size ∧ W1.heap.size < W19.heap.size from ⟨k8.heap HP.out.1 (by simp), HP.out.2.1, Nat.lt_of_lt_of_le HP.out.2.2 k8.size⟩)
                replace HP := HP2
                clear HP2
                clear HR HI hle h8 hs8 k8
                replace HB := Lib.hid hb
                clear hb
                clear hK K
                refine norm_ (a' := ?na20008) ?nb20008 ?nc20008
                case nb20008 =>
                  simp only [Act.put, List.setIfInBounds_toArray, List.set_cons_zero, List.set_cons_succ]
                  rfl
                refine pure_ (i := 9) (N := some 43) (v := ?_) (a' := ?_) #[true, true, true, true, true, true, true, true, true, true, false, false, true, false, false] rfl rfl (by kernel_rfl) (fun _ _ _ h => h) (Or.inl ⟨by rfl, ?_⟩) ?_ ?_
                rotate_left
                · intro w'
                  go_simp
                  with_reducible rfl
                rotate_left
                · simp only [Act.put, List.setIfInBounds_toArray, List.set_cons_zero, List.set_cons_succ]
                  rfl
                refine pure_ (i := 10) (N := some 53) (v := ?_) (a' := ?_) #[true, true, true, true, true, true, true, true, true, true, true, false, true, false, false] rfl rfl (by kernel_rfl) (fun _ _ _ h => h) (Or.inl ⟨by rfl, ?_⟩) ?_ ?_
                rotate_left
                · intro w'
                  go_simp
                  with_reducible rfl
                rotate_left
                · simp only [Act.put, List.setIfInBounds_toArray, List.set_cons_zero, List.set_cons_succ]
                  rfl
                refine pure_ (i := 11) (N := some 54) (v := ?_) (a' := ?_) #[true, true, true, true, true, true, true, true, true, true, true, true, true, false, false] rfl rfl (by kernel_rfl) (fun _ _ _ h => h) (Or.inl ⟨by rfl, ?_⟩) ?_ ?_
                rotate_left
                · intro w'
                  go_simp
                  with_reducible rfl
                rotate_left
                · simp only [Act.put, List.setIfInBounds_toArray, List.set_cons_zero, List.set_cons_succ]
                  rfl
                refine one_ (i := 13) (N := none) #[true, true, true, true, true, true, true, true, true, true, true, true, true, true, false] rfl rfl (by kernel_rfl) (by decide) (fun K hK => ?_)
                have hb := below_setRow HB.out HP.out.2.1 (setC seen2)
                have hrun := set_store_at W19 (W1.heap.size) z64 seen2 HP.out.1 z64_size
                refine skip_ (w1 := W19.setRow (W1.heap.size) (setC seen2)) (by rfl) rfl (exec_store (T := 42) (p := .tmp 5) (q := .tmp 53) (pv := .pointer (some ⟨W1.heap.size, 0, none⟩)) (qv := .agg (setC seen2)) rfl (by rfl) (by rfl) hrun) ?_
                clear hrun
                refine hK.out _ _ (HSS.out _ hb) (fun hHeld => ?_)
                replace HB := Lib.hid hb
                clear hb
                clear hK K
                refine pure_ (i := 14) (N := some 6) (v := ?_) (a' := ?_) #[true, true, true, true, true, true, true, true, true, true, true, true, true, true, true] rfl rfl (by kernel_rfl) (fun _ _ _ h => h) (Or.inl ⟨by rfl, ?_⟩) ?_ ?_
                rotate_left
                · intro w'
                  go_simp
                  with_reducible rfl
                rotate_left
                · simp only [Act.put, List.setIfInBounds_toArray, List.set_cons_zero, List.set_cons_succ]
                  rfl
                refine done_ (by kernel_rfl) ?_
                have HF := Lib.hid (Hfin.out _ _ H6.out H8.out)
                have KF := Lib.hid (KU.out.trans (Keeps.of_below HB.out _))
                clear hHeld H6 H8 Hfin HB KU
                cases ok with
                | true =>
                  go_wp2
                  go_ret
                  exact ⟨_, rfl, HF.out, KF.out⟩
                | false =>
                  go_wp2
                  go_ret
                  exact ⟨_, rfl, HF.out, KF.out⟩
            · refine value_ (v := .pointer (some ⟨U.heap.size, 0, none⟩)) (w1 := U.alloc (.cells z64 42)) (by rfl) rfl (by go_simp; rfl) ?_
              have hb := HB.out.alloc HB.out.size (.cells z64 42)
              have HP := Lib.hid (show (U.alloc (.cells z64 42)).heap[U.heap.size]? = some (.cells z64 42 (0, 0)) ∧ U.heap.size ≤ U.heap.size ∧ U.heap.size < (U.alloc (.cells z64 42)).heap.size from ⟨blk_new _ _, HB.out.size, by simp⟩)
              generalize U.alloc (.cells z64 42) = W22 at *
              refine hK.out _ _ (HSS.out _ hb) (fun hHeld => ?_)
              replace HB := Lib.hid hb
              clear hb
              clear hK K
              refine norm_ (a' := ?na23012) ?nb23012 ?nc23012
              case nb23012 =>
                simp only [Act.put, List.setIfInBounds_toArray, List.set_cons_zero, List.set_cons_succ]
                rfl
              refine one_ (i := 4) (N := some 48) #[true, true, true, true, true, true, true, false, false, false, false, false, true, false, false] rfl rfl (by kernel_rfl) (by decide) (fun K hK => ?_)
              refine Kd.R_lit_step (Kd.int .i64) (w0 := U) U.heap.size 3 (by rfl) rfl (xs := [ret]) (inner := [.int .i64 ret]) (ok := fun _ => True) (okp := fun _ => False) (by go_simp) (reps_one ret _ rfl) (fun _ h => h.elim) trivial HB.out HB.out.size (by simp) ?_
              intro v24 W24 hR hb hg hat
              show K (Act.put _ (some 48) _) _
              refine hK.out _ _ (HSS.out _ hb) (fun hHeld => ?_)
              have HP2 := Lib.hid (show W24.heap[U.heap.size]? = some (.cells z64 42 (0, 0)) ∧ U.heap.size ≤ U.heap.size ∧ U.heap.size < W24.heap.size from ⟨(hg.block _ HP.out.2.2 (by simp)).trans HP.out.1, HP.out.2.1, Nat.lt_of_lt_of_le HP.out.2.2 hg.size⟩)
              replace HP := HP2
              clear HP2
              have HR := Lib.hid hR
              clear hR hg hat
              replace HB := Lib.hid hb
              clear hb
              clear hK K
              refine norm_ (a' := ?na25004) ?nb25004 ?nc25004
              case nb25004 =>
                simp only [Act.put, List.setIfInBounds_toArray, List.set_cons_zero, List.set_cons_succ]
                rfl
              refine one_ (i := 7) (N := some 51) #[true, true, true, true, true, true, true, true, false, false, false, false, true, false, false] rfl rfl (by kernel_rfl) (by decide) (fun K hK => ?_)
              refine Kd.R_append_rows_step (Kd.int .i64) (Rr := fun x cs => cs = [.int .i64 x]) (w0 := U) U.heap.size (by rfl) (.tmp 48) (.tmp 50) 22 3 (.int .i64 0) 8 rfl Tryd.underlying22 info_int' rfl (by decide) (by decide) _ [ret] saved S saved.length cs (fun _ => True) (fun _ => False) rfl rfl HR.out (reads_of (HS.out.keep0 (KU.out.trans (Keeps.of_below HB.out _))) Hls.out) (fun _ _ h => h) (fun _ h => h.elim) (fun _ _ => trivial) HB.out HB.out.size (by have := Hls.out; simp; omega) ?_
              have hne := Kd.R_ne HR.out HP.out.1 (by decide)
              intro v26 W26 hR hb hg hat
              show K (Act.put _ (some 51) _) _
              refine hK.out _ _ (HSS.out _ hb) (fun hHeld => ?_)
              have HP2 := Lib.hid (show W26.heap[U.heap.size]? = some (.cells z64 42 (0, 0)) ∧ U.heap.size ≤ U.heap.size ∧ U.heap.size < W26.heap.size from ⟨(hg.block _ HP.out.2.2 hne).trans HP.out.1, HP.out.2.1, Nat.lt_of_lt_of_le HP.out.2.2 hg.size⟩)
              replace HP := HP2
              clear HP2
              replace HR := Lib.hid hR
              clear hR hg hat hne
              replace HB := Lib.hid hb
              clear hb
              clear hK K
              refine norm_ (a' := ?na27007) ?nb27007 ?nc27007
              case nb27007 =>
                simp only [Act.put, List.setIfInBounds_toArray, List.set_cons_zero, List.set_cons_succ]
                rfl
              refine one_ (i := 8) (N := some 52) #[true, true, true, true, true, true, true, true, true, false, false, false, true, false, false] rfl rfl (by kernel_rfl) (by decide) (fun K hK => ?_)
              obtain ⟨A28, c28, rfl, hle, _⟩ := Kd.R_reads HR.out
              have HI := Lib.hid (intsAt_of_R HR.out)
              refine goes_ (f := 16) Tryd.func16 (by kernel_rfl) rfl #[.int .i64 regs, .slice A28 ([ret] ++ saved).length c28] (by rfl) rfl rfl (by simp only [List.map_toArray, List.map_cons, List.map_nil]; rfl) ?_
              refine (of_calls regs (by omega) A28 c28 ([ret] ++ saved) _ HI.out (by have := Hls.out; simp; omega)).mono ?_
              rintro e W28 ⟨seen2, ok2, rfl, h8, hs8, k8⟩
              have hb := HB.out.trans (k8.below HB.out.size (fun _ _ h => h))
              have H8 := Lib.hid h8
              refine ⟨_, rfl, ?_⟩
              refine hK.out _ _ (HSS.out _ hb) (fun hHeld => ?_)
              have HP2 := Lib.hid (show W28.heap[U.heap.size]? = some (.cells z64 42 (0, 0)) ∧ U.heap.size ≤ U.heap.size ∧ U.heap.size < W28.heap.size from ⟨k8.heap HP.out.1 (by simp), HP.out.2.1, Nat.lt_of_lt_of_le HP.out.2.2 k8.size⟩)
              replace HP := HP2
              clear HP2
              clear HR HI hle h8 hs8 k8
              replace HB := Lib.hid hb
              clear hb
              clear hK K
              refine norm_ (a' := ?na29008) ?nb29008 ?nc29008
              case nb29008 =>
                simp only [Act.put, List.setIfInBounds_toArray, List.set_cons_zero, List.set_cons_succ]
                rfl
              refine pure_ (i := 9) (N := some 43) (v := ?_) (a' := ?_) #[true, true, true, true, true, true, true, true, true, true, false, false, true, false, false] rfl rfl (by kernel_rfl) (fun _ _ _ h => h) (Or.inl ⟨by rfl, ?_⟩) ?_ ?_
              rotate_left
              · intro w'
                go_simp
                with_reducible rfl
              rotate_left
              · simp only [Act.put, List.setIfInBounds_toArray, List.set_cons_zero, List.set_cons_succ]
                rfl
              refine pure_ (i := 10) (N := some 53) (v := ?_) (a' := ?_) #[true, true, true, true, true, true, true, true, true, true, true, false, true, false, false] rfl rfl (by kernel_rfl) (fun _ _ _ h => h) (Or.inl ⟨by rfl, ?_⟩) ?_ ?_
              rotate_left
              · intro w'
                go_simp
                with_reducible rfl
              rotate_left
              · simp only [Act.put, List.setIfInBounds_toArray, List.set_cons_zero, List.set_cons_succ]
                rfl
              refine pure_ (i := 11) (N := some 54) (v := ?_) (a' := ?_) #[true, true, true, true, true, true, true, true, true, true, true, true, true, false, false] rfl rfl (by kernel_rfl) (fun _ _ _ h => h) (Or.inl ⟨by rfl, ?_⟩) ?_ ?_
              rotate_left
              · intro w'
                go_simp
                with_reducible rfl
              rotate_left
              · simp only [Act.put, List.setIfInBounds_toArray, List.set_cons_zero, List.set_cons_succ]
                rfl
              refine one_ (i := 13) (N := none) #[true, true, true, true, true, true, true, true, true, true, true, true, true, true, false] rfl rfl (by kernel_rfl) (by decide) (fun K hK => ?_)
              have hb := below_setRow HB.out HP.out.2.1 (setC seen2)
              have hrun := set_store_at W28 (U.heap.size) z64 seen2 HP.out.1 z64_size
              refine skip_ (w1 := W28.setRow (U.heap.size) (setC seen2)) (by rfl) rfl (exec_store (T := 42) (p := .tmp 5) (q := .tmp 53) (pv := .pointer (some ⟨U.heap.size, 0, none⟩)) (qv := .agg (setC seen2)) rfl (by rfl) (by rfl) hrun) ?_
              clear hrun
              refine hK.out _ _ (HSS.out _ hb) (fun hHeld => ?_)
              replace HB := Lib.hid hb
              clear hb
              clear hK K
              refine pure_ (i := 14) (N := some 6) (v := ?_) (a' := ?_) #[true, true, true, true, true, true, true, true, true, true, true, true, true, true, true] rfl rfl (by kernel_rfl) (fun _ _ _ h => h) (Or.inl ⟨by rfl, ?_⟩) ?_ ?_
              rotate_left
              · intro w'
                go_simp
                with_reducible rfl
              rotate_left
              · simp only [Act.put, List.setIfInBounds_toArray, List.set_cons_zero, List.set_cons_succ]
                rfl
              refine done_ (by kernel_rfl) ?_
              have HF := Lib.hid (Hfin.out _ _ H6.out H8.out)
              have KF := Lib.hid (KU.out.trans (Keeps.of_below HB.out _))
              clear hHeld H6 H8 Hfin HB KU
              cases ok with
              | true =>
                go_wp2
                go_ret
                exact ⟨_, rfl, HF.out, KF.out⟩
              | false =>
                go_wp2
                go_ret
                exact ⟨_, rfl, HF.out, KF.out⟩
          · have h5' : decide (saved.Pairwise (· ≤ ·)) = false := decide_eq_false h5
            have H5 := Lib.hid h5'
            clear h5'
            go_wp2_with (first | (go_at_call 15; have m5 := sorted_calls S cs saved _ (HS.out.keep0 HK.out) (by have := Hls.out; omega); rw [H5.out] at m5; refine m5.mono ?_; clear m5; rintro e w5 ⟨rfl, q, rfl⟩))
            go_ret
            exact ⟨false, rfl, No.out (fun h => h5 h.2.2.2.2.1), HK.out.drewN q⟩

theorem right_says (b : Bool) (m : Mch) (hb : b = true ↔ RightM m) (A : Option Addr) (ca : Nat) (S : Option Addr) (cs : Nat) (w : World) (hA : IntsAt w A m.args) (hS : IntsAt w S m.saved) (hla : m.args.length ≤ 1000000000) (hls : m.saved.length ≤ 1000000000) :
    Calls Tryd.prog 7 #[m.V A ca S cs] w fun e w' => e = .returned (.bool b) ∧ Keeps (fun _ => False) w w' :=
  (right_calls m A ca S cs w hA hS hla hls).mono fun e w' h => by
    obtain ⟨r, rfl, hr, k⟩ := h
    have e : r = b := by
      cases r with
      | true => exact (hb.2 (hr.1 rfl)).symm
      | false =>
        cases b with
        | true => exact hr.2 (hb.1 rfl)
        | false => rfl
    rw [e]
    exact ⟨rfl, k⟩

end
end Go.Proofs.YtfpjdgobannneaaDoor

/-
  mach.IsSaved, mach.Enough: their contracts.
-/
namespace Go.Proofs.YtfpjdgobannneaaDoor
open Go Go.RowKit
set_option linter.unusedSimpArgs false

/-- a machine's cells -/
def Mch.cells (m : Mch) (A : Option Addr) (ca : Nat) (S : Option Addr) (cs : Nat) : Array Value := #[.int .i64 m.regs, .slice A m.args.length ca, .int .i64 m.ret, .slice S m.saved.length cs]

/-- a machine that lies in memory, with its rows -/
structure MachAt (w : World) (b : Nat) (m : Mch) (A : Option Addr) (ca : Nat) (S : Option Addr) (cs : Nat) : Prop where
  c0 : w.cell? ⟨b, 0, none⟩ = some (.int .i64 m.regs)
  c1 : w.cell? ⟨b, 1, none⟩ = some (.slice A m.args.length ca)
  c2 : w.cell? ⟨b, 2, none⟩ = some (.int .i64 m.ret)
  c3 : w.cell? ⟨b, 3, none⟩ = some (.slice S m.saved.length cs)
  args : IntsAt w A m.args
  saved : IntsAt w S m.saved

theorem MachAt.keep0 {w w' : World} {b : Nat} {m : Mch} {A : Option Addr} {ca : Nat} {S : Option Addr} {cs : Nat} (h : MachAt w b m A ca S cs) (k : Keeps (fun _ => False) w w') : MachAt w' b m A ca S cs :=
  ⟨k.cell' h.c0 (fun q => q), k.cell' h.c1 (fun q => q), k.cell' h.c2 (fun q => q), k.cell' h.c3 (fun q => q), h.args.keep0 k, h.saved.keep0 k⟩

theorem MachAt.new {w : World} {m : Mch} {A : Option Addr} (ca : Nat) {S : Option Addr} (cs : Nat) (hA : IntsAt w A m.args) (hS : IntsAt w S m.saved) : MachAt (w.alloc (.cells #[.int .i64 m.regs, .slice A m.args.length ca, .int .i64 m.ret, .slice S m.saved.length cs] 24)) w.heap.size m A ca S cs :=
  have hob := blk_new w (.cells #[.int .i64 m.regs, .slice A m.args.length ca, .int .i64 m.ret, .slice S m.saved.length cs] 24)
  have k := (Keeps.refl (fun _ => False) w).alloc (.cells #[.int .i64 m.regs, .slice A m.args.length ca, .int .i64 m.ret, .slice S m.saved.length cs] 24)
  ⟨(blk_cell hob 0).trans rfl, (blk_cell hob 1).trans rfl, (blk_cell hob 2).trans rfl, (blk_cell hob 3).trans rfl, hA.keep0 k, hS.keep0 k⟩

section
set_option maxRecDepth 100000
set_option maxHeartbeats 4000000

theorem contains_says (b : Bool) (A : Option Addr) (c : Nat) (l : List Int) (x : Int) (hb : b = true ↔ x ∈ l) (w : World) (h : IntsAt w A l) (hl : l.length ≤ 1000000000) :
    Calls Tryd.prog 24 #[.slice A l.length c, .int .i64 x] w fun e w' => e = .returned (.bool b) ∧ w = w' := by
  rcases Nat.eq_zero_or_pos l.length with h0 | h0
  · have e : l = [] := List.eq_nil_of_length_eq_zero h0
    subst e
    have eb : b = false := by
      cases b with
      | true => exact absurd (hb.1 rfl) (by simp)
      | false => rfl
    subst eb
    exact (Tryd.slices_Contains_int_empty A c x w).mono fun e w' h => ⟨h.1, h.2.symm⟩
  · obtain ⟨g, off, rfl, hg, hc⟩ := h (List.length_pos_iff.1 h0)
    have eb : (l.take l.length).contains x = b := by
      rw [List.take_of_length_le (Nat.le_refl _)]
      cases b with
      | true => simpa using hb.1 rfl
      | false =>
        cases hq : l.contains x with
        | true => exact absurd (hb.2 (by simpa using hq)) (by simp)
        | false => rfl
    have := Tryd.slices_Contains_int g off l.length c l x w (Nat.le_refl _) (by omega) (fun j hj => hc j _ (by rw [List.getD_eq_getElem?_getD, List.getElem?_eq_getElem hj]; rfl))
    rw [eb] at this
    exact this.mono fun e w' h => ⟨h.1, h.2.symm⟩

theorem issaved_says (b : Bool) (m : Mch) (x : Int) (hb : b = true ↔ x ∈ m.saved) (A : Option Addr) (ca : Nat) (S : Option Addr) (cs : Nat) (w : World) (hA : IntsAt w A m.args) (hS : IntsAt w S m.saved) (hls : m.saved.length ≤ 1000000000) :
    Calls Tryd.prog 13 #[m.V A ca S cs, .int .i64 x] w fun e w' => e = .returned (.bool b) ∧ Keeps (fun _ => False) w w' := by
  have HM := MachAt.new ca cs hA hS
  have y3 := HM.c3
  have HK := Lib.hid ((Keeps.refl (fun _ => False) w).alloc (.cells #[.int .i64 m.regs, .slice A m.args.length ca, .int .i64 m.ret, .slice S m.saved.length cs] 24))
  have H := Lib.hid HM
  clear HM
  simp only [Mch.V]
  go_enter Tryd.func13, Tryd.ntmps13
  go_wp2_with (first | (go_at_call 24; refine (contains_says b S cs m.saved x hb _ H.out.saved hls).mono ?_; rintro e w5 ⟨rfl, rfl⟩))
  go_ret
  exact ⟨rfl, HK.out⟩

/-- has it enough registers? -/
def EnoughM (m : Mch) (o a : Int) : Prop := RightM m ∧ o < m.regs ∧ a ≤ m.args.length

theorem enough_says (b : Bool) (m : Mch) (o a : Int) (hb : b = true ↔ EnoughM m o a) (A : Option Addr) (ca : Nat) (S : Option Addr) (cs : Nat) (w : World) (hA : IntsAt w A m.args) (hS : IntsAt w S m.saved) (hla : m.args.length ≤ 1000000000) (hls : m.saved.length ≤ 1000000000) :
    Calls Tryd.prog 6 #[m.V A ca S cs, .int .i64 o, .int .i64 a] w fun e w' => e = .returned (.bool b) ∧ Keeps (fun _ => False) w w' := by
  have HM := MachAt.new ca cs hA hS
  have y0 := HM.c0
  have y1 := HM.c1
  have y2 := HM.c2
  have y3 := HM.c3
  have HK := Lib.hid ((Keeps.refl (fun _ => False) w).alloc (.cells #[.int .i64 m.regs, .slice A m.args.length ca, .int .i64 m.ret, .slice S m.saved.length cs] 24))
  have H := Lib.hid HM
  clear HM
  have Hla := Lib.hid hla
  have Hls := Lib.hid hls
  clear hla hls
  simp only [Mch.V]
  by_cases hr : RightM m
  · have Hr := Lib.hid (show true = true ↔ RightM m from ⟨fun _ => hr, fun _ => rfl⟩)
    by_cases h1 : o < m.regs
    · have hb2 : b = decide (a ≤ (m.args.length : Int)) := by
        by_cases h2 : a ≤ (m.args.length : Int)
        · rw [decide_eq_true h2]; exact hb.2 ⟨hr, h1, h2⟩
        · rw [decide_eq_false h2]
          cases b with
          | true => exact absurd (hb.1 rfl).2.2 h2
          | false => rfl
      subst hb2
      clear hr hb
      go_enter Tryd.func6, Tryd.ntmps6
      go_wp2_with (first | (go_at_call 7; refine (right_says true m Hr.out A ca S cs _ H.out.args H.out.saved Hla.out Hls.out).mono ?_; rintro e w5 ⟨rfl, k5⟩; have z0 := k5.cell' y0 (by simp); have z1 := k5.cell' y1 (by simp); have K5 := Lib.hid (HK.out.trans k5); clear k5 y0 y1 y2 y3))
      go_ret
      exact ⟨rfl, K5.out⟩
    · have hb2 : b = false := by
        cases b with
        | true => exact absurd (hb.1 rfl).2.1 h1
        | false => rfl
      subst hb2
      clear hr hb
      go_enter Tryd.func6, Tryd.ntmps6
      go_wp2_with (first | (go_at_call 7; refine (right_says true m Hr.out A ca S cs _ H.out.args H.out.saved Hla.out Hls.out).mono ?_; rintro e w5 ⟨rfl, k5⟩; have z0 := k5.cell' y0 (by simp); have z1 := k5.cell' y1 (by simp); have K5 := Lib.hid (HK.out.trans k5); clear k5 y0 y1 y2 y3))
      go_ret
      exact ⟨rfl, K5.out⟩
  · have Hr := Lib.hid (show false = true ↔ RightM m from ⟨fun h => (by cases h), fun h => absurd h hr⟩)
    have hb2 : b = false := by
      cases b with
      | true => exact absurd (hb.1 rfl).1 hr
      | false => rfl
    subst hb2
    clear hr hb
    go_enter Tryd.func6, Tryd.ntmps6
    go_wp2_with (first | (go_at_call 7; refine (right_says false m Hr.out A ca S cs _ H.out.args H.out.saved Hla.out Hls.out).mono ?_; rintro e w5 ⟨rfl, k5⟩; have K5 := Lib.hid (HK.out.trans k5); clear k5 y0 y1 y2 y3))
    go_ret
    exact ⟨rfl, K5.out⟩

end
end Go.Proofs.YtfpjdgobannneaaDoor

/-
  mach.Lost: its contract.
-/
namespace Go.Proofs.YtfpjdgobannneaaDoor
open Go Go.RowKit Go.Proofs.YtfpjdgobannneaaDoorW.PrintWords
set_option linter.unusedSimpArgs false

/-- the registers below k that a call loses -/
def Mch.lostTo (m : Mch) (k : Nat) : List Int := ((List.range k).map fun (i : Nat) => (i : Int)).filter fun r => decide (r ∉ m.saved)

theorem lostTo_yes (m : Mch) (k : Nat) (h : (k : Int) ∉ m.saved) : m.lostTo (k + 1) = m.lostTo k ++ [(k : Int)] := by
  unfold Mch.lostTo
  rw [List.range_succ, List.map_append, List.filter_append]
  simp [h]

theorem lostTo_no (m : Mch) (k : Nat) (h : (k : Int) ∈ m.saved) : m.lostTo (k + 1) = m.lostTo k := by
  unfold Mch.lostTo
  rw [List.range_succ, List.map_append, List.filter_append]
  simp [h]

theorem lostTo_len (m : Mch) (k : Nat) : (m.lostTo k).length ≤ k := by
  unfold Mch.lostTo
  exact Nat.le_trans (List.length_filter_le _ _) (by simp)

theorem all_bools : ∀ (xs ys : List Bool), xs.length = ys.length → ((List.range xs.length).all fun i => xs.getD i false == ys.getD i false) = (xs == ys)
  | [], [], _ => rfl
  | x :: xs, y :: ys, h => by
    have ih := all_bools xs ys (by simpa using h)
    rw [List.length_cons, List.range_succ_eq_map, List.all_cons, List.all_map]
    simp only [List.getD_cons_zero, Function.comp_def, List.getD_cons_succ, ih]
    simp [List.cons_beq_cons]
  | [], _ :: _, h => by simp at h
  | _ :: _, [], h => by simp at h

section
variable {P : Program} (w : World)

/-- arrays of bools, told apart -/
theorem equal_bools (d : Nat) (t e : TypeId) (n : Nat) (ht : P.underlying t = some (.array n e)) (he : P.underlying e = some .bool) (hsz : ∀ w, (sizeOf e).run P w = .ok 1 w)
    (xs ys : List Bool) (hx : xs.length = n) (hy : ys.length = n) :
    (Op.equalIn (d + 2) t (.agg (xs.map Value.bool).toArray) (.agg (ys.map Value.bool).toArray)).run P w = .ok (xs == ys) w := by
  rw [← all_bools xs ys (hx.trans hy.symm), hx, List.range_eq_range', Op.equalIn]
  simp only [Sem.run_bind, run_underlying ht, Result.andThen_ok, hsz, Std.Legacy.Range.forIn_eq_forIn_range', Std.Legacy.Range.size, Nat.sub_zero, Nat.add_sub_cancel, Nat.div_one]
  have hl : ∀ i ∈ List.range' 0 n 1, i < n := fun i hi => by simpa using (List.mem_range'_1.1 hi).2
  generalize List.range' 0 n 1 = l at hl ⊢
  induction l with
  | nil => simp
  | cons i l ih =>
    have hi : i < n := hl i (by simp)
    have px : (part e (xs.map Value.bool).toArray (i * 1)).run P w = .ok (.bool (xs.getD i false)) w := by
      simp [part, isAgg, run_underlying he, List.getD, List.getElem?_eq_getElem (show i < xs.length by omega)]
    have py : (part e (ys.map Value.bool).toArray (i * 1)).run P w = .ok (.bool (ys.getD i false)) w := by
      simp [part, isAgg, run_underlying he, List.getD, List.getElem?_eq_getElem (show i < ys.length by omega)]
    have pe : (Op.equalIn (d + 1) e (.bool (xs.getD i false)) (.bool (ys.getD i false))).run P w = .ok (xs.getD i false == ys.getD i false) w := by
      simp [Op.equalIn, run_underlying he, Sem.run_bind, Result.andThen]
    simp only [List.forIn_cons, Sem.run_bind, px, py, pe, Result.andThen_ok, List.all_cons]
    cases hb : (xs.getD i false == ys.getD i false)
    · simp
    · simp only [Bool.not_true, Bool.false_eq_true, if_false, Sem.run_pure, Result.andThen_ok, Bool.true_and]
      exact ih fun j hj => hl j (by simp [hj])

end

theorem z64_bools : z64 = ((List.replicate 64 false).map Value.bool).toArray := by kernel_rfl

set_option maxRecDepth 100000 in
/-- a set told apart from the empty one -/
theorem set_empty (b : Bool) (seen : List Int) (hb : b = true ↔ ∀ r : Nat, r < 64 → (r : Int) ∉ seen) (w : World) :
    (Op.equalIn 10000 42 (.agg (setC seen)) (.agg z64)).run Tryd.prog w = .ok b w := by
  have e : setC seen = (((List.range 64).map fun (i : Nat) => decide ((i : Int) ∈ seen)).map Value.bool).toArray := by
    unfold setC
    rw [List.map_map]
    rfl
  rw [e, z64_bools]
  have := equal_bools (P := Tryd.prog) w 9998 42 4 64 Tryd.underlying42 Tryd.underlying4 Tryd.sizeOf4 ((List.range 64).map fun (i : Nat) => decide ((i : Int) ∈ seen)) (List.replicate 64 false) (by simp) (by simp)
  rw [this]
  congr 1
  rw [Bool.eq_iff_iff, hb]
  rw [beq_iff_eq, List.eq_replicate_iff]
  simp

end Go.Proofs.YtfpjdgobannneaaDoor

/-
  mach.Lost: the walk.
-/
namespace Go.Proofs.YtfpjdgobannneaaDoor
open Go Go.RowKit Go.Proofs.YtfpjdgobannneaaDoorW.PrintWords Go.Proofs.YtfpjdgobannneaaDoorW.PrintLast
set_option linter.unusedSimpArgs false

/-- a row of numbers that a call made -/
def IntsO (w : World) (base : Nat) (v : Value) (xs : List Int) : Prop := (Kd.int .i64).R 3 w base (fun _ => True) v xs

theorem IntsO.keep {w w' : World} {base : Nat} {v : Value} {xs : List Int} (h : IntsO w base v xs) (hk : Below w.heap.size w w') : IntsO w' base v xs := Kd.R_below h hk

theorem IntsO.slice {w : World} {base : Nat} {v : Value} {xs : List Int} (h : IntsO w base v xs) : ∃ A c, v = .slice A xs.length c ∧ IntsAt w A xs := by
  obtain ⟨A, c, rfl⟩ := Kd.R_slice h
  exact ⟨A, c, rfl, intsAt_of_R h⟩

/-- what Lost tells -/
def LostPost (xs : List Int) (w : World) (e : Ending) (w' : World) : Prop := ∃ v, e = .returned v ∧ IntsO w' w.heap.size v xs ∧ Keeps (fun _ => False) w w'

/-- whether no register is in a set -/
def SetTold (b : Bool) (seen : List Int) : Prop := b = true ↔ ∀ r : Nat, r < 64 → (r : Int) ∉ seen

/-- a piece of a set that lies in memory -/
theorem slice_set (w : World) (g R : Nat) (hR : R ≤ 64) : (Instr.sliceAt 42 (.pointer (some ⟨g, 0, none⟩)) none (some (.int .i64 (R : Int))) none).run Tryd.prog w = .ok (.slice (some ⟨g, 0, none⟩) R 64) w := by
  have e : Tryd.prog.arrayLen 42 = 64 := by kernel_rfl
  have e2 : Tryd.prog.elem 42 = 4 := by kernel_rfl
  rw [run_sliceAt_array_h w 42 ⟨g, 0, none⟩ (by rw [e, e2]; exact Tryd.underlying42) .i64 R (by omega) (by rw [e]; omega), e, e2, Tryd.sizeOf4]
  simp [slicedAt, Addr.add]

section
set_option maxRecDepth 100000
set_option maxHeartbeats 4000000

theorem lost_no (m : Mch) (hr : ¬ RightM m) (A : Option Addr) (ca : Nat) (S : Option Addr) (cs : Nat) (w : World) (hA : IntsAt w A m.args) (hS : IntsAt w S m.saved) (hla : m.args.length ≤ 1000000000) (hls : m.saved.length ≤ 1000000000) :
    Calls Tryd.prog 11 #[m.V A ca S cs] w (LostPost [] w) := by
  have HM := MachAt.new ca cs hA hS
  have y0 := HM.c0
  have y1 := HM.c1
  have y2 := HM.c2
  have y3 := HM.c3
  have HK := Lib.hid ((Keeps.refl (fun _ => False) w).alloc (.cells #[.int .i64 m.regs, .slice A m.args.length ca, .int .i64 m.ret, .slice S m.saved.length cs] 24))
  have H := Lib.hid HM
  clear HM
  have Hla := Lib.hid hla
  have Hls := Lib.hid hls
  clear hla hls
  have Hr := Lib.hid (show false = true ↔ RightM m from ⟨fun h => (by cases h), fun h => absurd h hr⟩)
  clear hr
  simp only [Mch.V]
  go_enter Tryd.func11, Tryd.ntmps11
  go_wp2_with (first | (go_at_call 7; refine (right_says false m Hr.out A ca S cs _ H.out.args H.out.saved Hla.out Hls.out).mono ?_; rintro e w5 ⟨rfl, k5⟩; have K5 := Lib.hid (HK.out.trans k5); clear k5 y0 y1 y2 y3))
  go_ret
  exact ⟨_, rfl, Kd.R_nil _ _ _ _ _, K5.out⟩

theorem lost_yes (m : Mch) (hr : RightM m) (A : Option Addr) (ca : Nat) (S : Option Addr) (cs : Nat) (w : World) (hA : IntsAt w A m.args) (hS : IntsAt w S m.saved) (hla : m.args.length ≤ 1000000000) (hls : m.saved.length ≤ 1000000000) :
    Calls Tryd.prog 11 #[m.V A ca S cs] w (LostPost (m.lostTo m.regs.toNat) w) := by
  obtain ⟨regs, args, ret, saved⟩ := m
  have hr0 : 0 ≤ regs := by have := hr.1; simp only at this; omega
  obtain ⟨R, rfl⟩ : ∃ R : Nat, regs = R := ⟨regs.toNat, by omega⟩
  have hR64 : R ≤ 64 := by have := hr.2.1; simp only at this; omega
  clear hr0
  simp only at hA hS hla hls
  have HM := MachAt.new (m := ⟨R, args, ret, saved⟩) ca cs hA hS
  have y0 := HM.c0
  have y1 := HM.c1
  have y2 := HM.c2
  have y3 := HM.c3
  simp only at y0 y1 y2 y3
  have HK := Lib.hid ((Keeps.refl (fun _ => False) w).alloc (.cells #[.int .i64 R, .slice A args.length ca, .int .i64 ret, .slice S saved.length cs] 24))
  have H := Lib.hid HM
  clear HM
  have Hla := Lib.hid hla
  have Hls := Lib.hid hls
  clear hla hls
  have Hr := Lib.hid (show true = true ↔ RightM ⟨R, args, ret, saved⟩ from ⟨fun _ => hr, fun _ => rfl⟩)
  have Hin := Lib.hid (show RegsOk R saved from ⟨fun x hx => hr.2.2.2.2.2.2.1 x (by simp [hx]), (List.nodup_cons.1 hr.2.2.2.2.2.2.2).2⟩)
  clear hr
  simp only [Mch.V, Int.toNat_natCast]
  by_cases he : saved = []
  · have Hb := Lib.hid (show SetTold true saved from ⟨fun _ r _ => by rw [he]; simp, fun _ => rfl⟩)
    have He := Lib.hid he
    clear he
    go_enter Tryd.func11, Tryd.ntmps11
    go_upto_region 4 with (first | (go_at_call 7; have m5 := right_says true ⟨R, args, ret, saved⟩ Hr.out A ca S cs _ H.out.args H.out.saved Hla.out Hls.out; simp only [Mch.V] at m5; refine m5.mono ?_; clear m5; rintro e w5 ⟨rfl, k5⟩; have z0 := k5.cell' y0 (by simp); have z3 := k5.cell' y3 (by simp); have K5 := Lib.hid (HK.out.trans k5); have H5 := Lib.hid (H.out.keep0 k5); clear k5 y0 y1 y2 y3 HK H) | (go_at_call 16; refine (of_calls R (by omega) S cs saved _ H5.out.saved (by have := Hls.out; omega)).mono ?_; rintro e w6 ⟨seen, ok, rfl, hok, hseen, k6⟩; have hok2 : ok = true := hok.2 Hin.out; have hs2 := hseen hok2; clear hok hseen; subst seen; subst hok2; have z0 := k6.cell' z0 (by simp); have z3 := k6.cell' z3 (by simp); have K6 := Lib.hid (K5.out.trans k6); have H6 := Lib.hid (H5.out.keep0 k6); have hst := set_store w6 saved; unfold z64 at hst; have Hload := Lib.hid (run_loadAt_new (P := Tryd.prog) w6 42 (setC saved) 64 4 Tryd.underlying42 (setC_info _)); have heq := set_empty true saved Hb.out (w6.alloc (.cells (setC saved) 42)); unfold z64 at heq; clear k6 K5 H5))
    refine wp_region_lit ?_
    refine load_whole 42 rfl (.tmp 3) (some 19) rfl rfl _ _ rfl Hload.out ?_
    clear hst
    have z0 := ((Keeps.refl (fun _ => False) w6).alloc (.cells (setC saved) 42)).cell' z0 (by simp)
    have HB6 := Lib.hid (blk_new w6 (.cells (setC saved) 42))
    have K7 := Lib.hid (K6.out.alloc (.cells (setC saved) 42))
    have hs7 : w6.heap.size < (w6.alloc (.cells (setC saved) 42)).heap.size := by simp
    generalize w6.alloc (.cells (setC saved) 42) = W at *
    go_wp2
    go_loopw [2, 24] (fun v2 v24 wr => ∃ k : Nat, k ≤ R ∧ v24 = .int .i64 k ∧ Hid (IntsO wr W.heap.size v2 ((List.range k).map fun (i : Nat) => (i : Int))) ∧ Hid (Below W.heap.size W wr)) (fun _ v24 _ => R - (intOf v24).toNat)
    case atStart => exact ⟨0, Nat.zero_le _, rfl, Lib.hid (Kd.R_nil _ _ _ _ _), Lib.hid (Below.refl _ _)⟩
    case round =>
      obtain ⟨k, hk, rfl, HO, HB⟩ := hrel
      obtain ⟨A2, c2, rfl⟩ := Kd.R_slice HO.out
      by_cases hlt : k < R
      · go_wp2_with (first | ((with_reducible refine gate_builtin (b := .append) (xs := #[.tmp 27, .tmp 29]) rfl ?_); at_builtin; refine Kd.R_append (Kd.int .i64) (w0 := W) W.heap.size rfl (.tmp 27) (.tmp 29) 22 3 (.int .i64 0) 8 rfl Tryd.underlying22 info_int' rfl (by decide) (by omega) (.slice A2 ((List.range k).map fun (i : Nat) => (i : Int)).length c2) ((List.range k).map fun (i : Nat) => (i : Int)) (k : Int) [.int .i64 (k : Int)] (fun _ => True) (fun _ => False) rfl rfl rfl (fun _ hk => hk.elim) (fun _ _ => trivial) HO.out HB.out HB.out.size (by simp; omega) ?_; intro v2 w2 ho hb hg hat; have R2 := Lib.hid ho; have HB2 := Lib.hid hb; clear ho hb hg hat))
        go_roundw
        case rel => exact ⟨k + 1, by omega, by go_num, by (refine Lib.hid ?_; have := R2.out; rw [List.range_succ, List.map_append]; exact this), HB2⟩
        case measure => simp [intOf]; omega
      · have hkR : k = R := by omega
        subst hkR
        have hxs : Mch.lostTo ⟨k, args, ret, saved⟩ k = (List.range k).map fun (i : Nat) => (i : Int) := by
          unfold Mch.lostTo
          rw [He.out]
          simp
        have HO2 := Lib.hid (show IntsO wr W.heap.size (.slice A2 ((List.range k).map fun (i : Nat) => (i : Int)).length c2) (Mch.lostTo ⟨k, args, ret, saved⟩ k) from by rw [hxs]; exact HO.out)
        clear hxs
        go_wp2
        go_ret
        exact ⟨.slice A2 ((List.range k).map fun (i : Nat) => (i : Int)).length c2, rfl, Kd.R_lower HO2.out K7.out.size, K7.out.trans (Keeps.of_below HB.out _)⟩
  · have Hb := Lib.hid (show SetTold false saved from ⟨fun h => (by cases h), fun h => by
      obtain ⟨x, hx⟩ := List.exists_mem_of_ne_nil _ he
      have hx2 := Hin.out.1 x hx
      have hq := h x.toNat (by omega)
      rw [Int.toNat_of_nonneg hx2.1] at hq
      exact absurd hx hq⟩)
    clear he
    go_enter Tryd.func11, Tryd.ntmps11
    go_upto_region 4 with (first | (go_at_call 7; have m5 := right_says true ⟨R, args, ret, saved⟩ Hr.out A ca S cs _ H.out.args H.out.saved Hla.out Hls.out; simp only [Mch.V] at m5; refine m5.mono ?_; clear m5; rintro e w5 ⟨rfl, k5⟩; have z0 := k5.cell' y0 (by simp); have z3 := k5.cell' y3 (by simp); have K5 := Lib.hid (HK.out.trans k5); have H5 := Lib.hid (H.out.keep0 k5); clear k5 y0 y1 y2 y3 HK H) | (go_at_call 16; refine (of_calls R (by omega) S cs saved _ H5.out.saved (by have := Hls.out; omega)).mono ?_; rintro e w6 ⟨seen, ok, rfl, hok, hseen, k6⟩; have hok2 : ok = true := hok.2 Hin.out; have hs2 := hseen hok2; clear hok hseen; subst seen; subst hok2; have z0 := k6.cell' z0 (by simp); have z3 := k6.cell' z3 (by simp); have K6 := Lib.hid (K5.out.trans k6); have H6 := Lib.hid (H5.out.keep0 k6); have hst := set_store w6 saved; unfold z64 at hst; have Hload := Lib.hid (run_loadAt_new (P := Tryd.prog) w6 42 (setC saved) 64 4 Tryd.underlying42 (setC_info _)); have heq := set_empty false saved Hb.out (w6.alloc (.cells (setC saved) 42)); unfold z64 at heq; clear k6 K5 H5))
    refine wp_region_lit ?_
    refine load_whole 42 rfl (.tmp 3) (some 19) rfl rfl _ _ rfl Hload.out ?_
    clear hst
    have z0 := ((Keeps.refl (fun _ => False) w6).alloc (.cells (setC saved) 42)).cell' z0 (by simp)
    have HB6 := Lib.hid (blk_new w6 (.cells (setC saved) 42))
    have K7 := Lib.hid (K6.out.alloc (.cells (setC saved) 42))
    have hs7 : w6.heap.size < (w6.alloc (.cells (setC saved) 42)).heap.size := by simp
    generalize w6.alloc (.cells (setC saved) 42) = W at *
    have hsl := slice_set W w6.heap.size R hR64
    go_wp2
    go_loopw [2, 37] (fun v2 v37 wr => ∃ k : Nat, k ≤ R ∧ v37 = .int .i64 k ∧ Hid (IntsO wr W.heap.size v2 (Mch.lostTo ⟨R, args, ret, saved⟩ k)) ∧ Hid (Below W.heap.size W wr)) (fun _ v37 _ => R - (intOf v37).toNat)
    case atStart => exact ⟨0, Nat.zero_le _, rfl, Lib.hid (Kd.R_nil _ _ _ _ _), Lib.hid (Below.refl _ _)⟩
    case round =>
      obtain ⟨k, hk, rfl, HO, HB⟩ := hrel
      obtain ⟨A2, c2, rfl⟩ := Kd.R_slice HO.out
      have Hlen := Lib.hid (lostTo_len ⟨R, args, ret, saved⟩ k)
      by_cases hlt : k < R
      · have hc := (blk_cell (((HB.out.block _ hs7).trans HB6.out)) k).trans (setC_at saved (by omega))
        by_cases hm : (k : Int) ∈ saved
        · have hd : decide ((k : Int) ∈ saved) = true := decide_eq_true hm
          rw [hd] at hc
          have HL := Lib.hid (lostTo_no ⟨R, args, ret, saved⟩ k hm)
          clear hd hm
          go_wp2
          go_roundw
          case rel => exact ⟨k + 1, by omega, by go_num, by (refine Lib.hid ?_; rw [HL.out]; exact HO.out), HB⟩
          case measure => simp [intOf]; omega
        · have hd : decide ((k : Int) ∈ saved) = false := decide_eq_false hm
          rw [hd] at hc
          have HL := Lib.hid (lostTo_yes ⟨R, args, ret, saved⟩ k hm)
          clear hd hm
          go_wp2_with (first | ((with_reducible refine gate_builtin (b := .append) (xs := #[.tmp 44, .tmp 46]) rfl ?_); at_builtin; refine Kd.R_append (Kd.int .i64) (w0 := W) W.heap.size rfl (.tmp 44) (.tmp 46) 22 3 (.int .i64 0) 8 rfl Tryd.underlying22 info_int' rfl (by decide) (by omega) (.slice A2 (Mch.lostTo ⟨R, args, ret, saved⟩ k).length c2) (Mch.lostTo ⟨R, args, ret, saved⟩ k) (k : Int) [.int .i64 (k : Int)] (fun _ => True) (fun _ => False) rfl rfl rfl (fun _ hk => hk.elim) (fun _ _ => trivial) HO.out HB.out HB.out.size (by have := Hlen.out; omega) ?_; intro v2 w2 ho hb hg hat; have R2 := Lib.hid ho; have HB2 := Lib.hid hb; clear ho hb hg hat))
          go_roundw
          case rel => exact ⟨k + 1, by omega, by go_num, by (refine Lib.hid ?_; rw [HL.out]; exact R2.out), HB2⟩
          case measure => simp [intOf]; omega
      · have hkR : k = R := by omega
        subst hkR
        go_wp2
        go_ret
        exact ⟨.slice A2 (Mch.lostTo ⟨k, args, ret, saved⟩ k).length c2, rfl, Kd.R_lower HO.out K7.out.size, K7.out.trans (Keeps.of_below HB.out _)⟩

end
end Go.Proofs.YtfpjdgobannneaaDoor

/-
  intarsiakit.SameInts, intarsialaw05.same and mach.Keeps: their contracts.
-/
namespace Go.Proofs.YtfpjdgobannneaaDoor
open Go Go.RowKit Go.Proofs.YtfpjdgobannneaaDoorW.PrintWords Go.Proofs.YtfpjdgobannneaaDoorW.PrintLast
set_option linter.unusedSimpArgs false

/-- a fact: the variable, whether it is a slot, its number -/
def kFact : Kd (Int × Bool × Int) := Kd.pair (Kd.int .i64) (Kd.pair Kd.bool (Kd.int .i64))

theorem kFact_mk (w : World) (base : Nat) (ok : Nat → Prop) (a : Int) (b : Bool) (c : Int) : kFact.M w base ok (a, b, c) [.int .i64 a, .bool b, .int .i64 c] :=
  ⟨[.int .i64 a], [.bool b, .int .i64 c], rfl, rfl, ⟨[.bool b], [.int .i64 c], rfl, rfl, rfl⟩⟩

/-- a row of facts that a call made -/
def FactsO (w : World) (base : Nat) (v : Value) (xs : List (Int × Bool × Int)) : Prop := kFact.R 61 w base (fun _ => True) v xs

theorem info_fact : (Tryd.prog.info? 61).map (fun i => (i.zero, i.size, i.bytes)) = some (some (.agg #[.int .i64 0, .bool false, .int .i64 0]), kFact.sz, 24) := by kernel_rfl

/-- what Keeps tells -/
def KeepsPost (xs : List (Int × Bool × Int)) (w : World) (e : Ending) (w' : World) : Prop := ∃ v, e = .returned v ∧ FactsO w' w.heap.size v xs ∧ Keeps (fun _ => False) w w'

/-- a saved register's fact -/
def keep1 (r : Int) : Int × Bool × Int := (-1 - r, false, r)

section
set_option maxRecDepth 100000
set_option maxHeartbeats 4000000

theorem keeps_no (m : Mch) (hr : ¬ RightM m) (A : Option Addr) (ca : Nat) (S : Option Addr) (cs : Nat) (w : World) (hA : IntsAt w A m.args) (hS : IntsAt w S m.saved) (hla : m.args.length ≤ 1000000000) (hls : m.saved.length ≤ 1000000000) :
    Calls Tryd.prog 12 #[m.V A ca S cs] w (KeepsPost [] w) := by
  have HM := MachAt.new ca cs hA hS
  have y0 := HM.c0
  have y1 := HM.c1
  have y2 := HM.c2
  have y3 := HM.c3
  have HK := Lib.hid ((Keeps.refl (fun _ => False) w).alloc (.cells #[.int .i64 m.regs, .slice A m.args.length ca, .int .i64 m.ret, .slice S m.saved.length cs] 24))
  have H := Lib.hid HM
  clear HM
  have Hla := Lib.hid hla
  have Hls := Lib.hid hls
  clear hla hls
  have Hr := Lib.hid (show false = true ↔ RightM m from ⟨fun h => (by cases h), fun h => absurd h hr⟩)
  clear hr
  simp only [Mch.V]
  go_enter Tryd.func12, Tryd.ntmps12
  go_wp2_with (first | (go_at_call 7; refine (right_says false m Hr.out A ca S cs _ H.out.args H.out.saved Hla.out Hls.out).mono ?_; rintro e w5 ⟨rfl, k5⟩; have K5 := Lib.hid (HK.out.trans k5); clear k5 y0 y1 y2 y3))
  go_ret
  exact ⟨_, rfl, Kd.R_nil _ _ _ _ _, K5.out⟩

theorem keeps_yes (m : Mch) (hr : RightM m) (A : Option Addr) (ca : Nat) (S : Option Addr) (cs : Nat) (w : World) (hA : IntsAt w A m.args) (hS : IntsAt w S m.saved) (hla : m.args.length ≤ 1000000000) (hls : m.saved.length ≤ 1000000000) :
    Calls Tryd.prog 12 #[m.V A ca S cs] w (KeepsPost (m.saved.map keep1) w) := by
  obtain ⟨regs, args, ret, saved⟩ := m
  simp only at hA hS hla hls
  have HM := MachAt.new (m := ⟨regs, args, ret, saved⟩) ca cs hA hS
  have y0 := HM.c0
  have y1 := HM.c1
  have y2 := HM.c2
  have y3 := HM.c3
  simp only at y0 y1 y2 y3
  have HK := Lib.hid ((Keeps.refl (fun _ => False) w).alloc (.cells #[.int .i64 regs, .slice A args.length ca, .int .i64 ret, .slice S saved.length cs] 24))
  have H := Lib.hid HM
  clear HM
  have Hla := Lib.hid hla
  have Hls := Lib.hid hls
  clear hla
  have Hr := Lib.hid (show true = true ↔ RightM ⟨regs, args, ret, saved⟩ from ⟨fun _ => hr, fun _ => rfl⟩)
  have Hin := Lib.hid (show ∀ r ∈ saved, 0 ≤ r ∧ r < 64 from fun x hx => by
    have h1 := hr.2.2.2.2.2.2.1 x (by simp [hx])
    have h2 := hr.2.1
    simp only at h1 h2
    omega)
  clear hr
  simp only [Mch.V]
  go_enter Tryd.func12, Tryd.ntmps12
  go_wp2_with (first | (go_at_call 7; have m5 := right_says true ⟨regs, args, ret, saved⟩ Hr.out A ca S cs _ H.out.args H.out.saved Hla.out Hls.out; simp only [Mch.V] at m5; refine m5.mono ?_; clear m5; rintro e w5 ⟨rfl, k5⟩; have z3 := k5.cell' y3 (by simp); have K5 := Lib.hid (HK.out.trans k5); have H5 := Lib.hid (H.out.keep0 k5); clear k5 y0 y1 y2 y3 HK H))
  go_loopw [2, 11] (fun v2 v11 wr => ∃ k : Nat, k ≤ saved.length ∧ v11 = .int .i64 k ∧ Hid (FactsO wr w5.heap.size v2 ((saved.take k).map keep1)) ∧ Hid (Below w5.heap.size w5 wr)) (fun _ v11 _ => saved.length - (intOf v11).toNat)
  case atStart => exact ⟨0, Nat.zero_le _, rfl, Lib.hid (Kd.R_nil _ _ _ _ _), Lib.hid (Below.refl _ _)⟩
  case round =>
    obtain ⟨k, hk, rfl, HO, HB⟩ := hrel
    obtain ⟨A2, c2, rfl⟩ := Kd.R_slice HO.out
    have Hlen := Lib.hid (show ((saved.take k).map keep1).length ≤ 1000000000 from by simp; omega)
    by_cases hlt : k < saved.length
    · obtain ⟨g, off, rfl, hg, hc⟩ := (H5.out.saved.keep0 (Keeps.of_below HB.out (fun _ => False))) (List.length_pos_iff.1 (by show 0 < saved.length; omega))
      have hx := hc k saved[k] (List.getElem?_eq_getElem hlt)
      have HT := Lib.hid (show (saved.take (k + 1)).map keep1 = (saved.take k).map keep1 ++ [keep1 saved[k]] from by rw [List.take_succ_eq_append_getElem hlt, List.map_append]; rfl)
      have hin := Hin.out saved[k] (List.getElem_mem hlt)
      clear hc
      generalize saved[k] = x at *
      go_wp2_with (first | ((with_reducible refine gate_builtin (b := .append) (xs := #[.tmp 15, .tmp 21]) rfl ?_); at_builtin; refine Kd.R_append kFact (w0 := w5) w5.heap.size rfl (.tmp 15) (.tmp 21) 35 61 (.agg #[.int .i64 0, .bool false, .int .i64 0]) 24 rfl Tryd.underlying35 info_fact rfl (by decide) (by omega) (.slice A2 ((saved.take k).map keep1).length c2) ((saved.take k).map keep1) (keep1 x) [.int .i64 (-1 - x), .bool false, .int .i64 x] (fun _ => True) (fun _ => False) rfl rfl (kFact_mk _ _ _ _ _ _) (fun _ hk => hk.elim) (fun _ _ => trivial) HO.out HB.out HB.out.size (by have := Hlen.out; omega) ?_; intro v2 w2 ho hb hg hat; have R2 := Lib.hid ho; have HB2 := Lib.hid hb; clear ho hb hg hat))
      go_roundw
      case rel => exact ⟨k + 1, by omega, by go_num, by (refine Lib.hid ?_; rw [HT.out]; exact R2.out), HB2⟩
      case measure => simp [intOf]; omega
    · have hkn : k = saved.length := by omega
      subst hkn
      have HO2 := Lib.hid (show FactsO wr w5.heap.size (.slice A2 ((saved.take saved.length).map keep1).length c2) (saved.map keep1) from by
        have := HO.out
        rw [List.take_length] at this
        rw [List.take_length]
        exact this)
      go_wp2
      go_ret
      exact ⟨.slice A2 ((saved.take saved.length).map keep1).length c2, rfl, Kd.R_lower HO2.out K5.out.size, K5.out.trans (Keeps.of_below HB.out _)⟩

end
end Go.Proofs.YtfpjdgobannneaaDoor

/-
  intarsiakit.SameInts and intarsialaw05.same: their contracts.
-/
namespace Go.Proofs.YtfpjdgobannneaaDoor
open Go Go.RowKit
set_option linter.unusedSimpArgs false

theorem take_step {l1 l2 : List Int} {k : Nat} (h1 : k < l1.length) (h2 : k < l2.length) (h : l1.take k = l2.take k) (e : l1[k] = l2[k]) : l1.take (k + 1) = l2.take (k + 1) := by
  rw [List.take_succ_eq_append_getElem h1, List.take_succ_eq_append_getElem h2, h, e]

theorem bool_true {b : Bool} {p : Prop} (hb : b = true ↔ p) (h : p) : b = true := hb.2 h

theorem bool_false {b : Bool} {p : Prop} (hb : b = true ↔ p) (h : ¬ p) : b = false := by
  cases b with
  | true => exact absurd (hb.1 rfl) h
  | false => rfl

section
set_option maxRecDepth 100000
set_option maxHeartbeats 4000000

theorem sameints_says (b : Bool) (l1 l2 : List Int) (hb : b = true ↔ l1 = l2) (A1 : Option Addr) (c1 : Nat) (A2 : Option Addr) (c2 : Nat) (w : World) (h1 : IntsAt w A1 l1) (h2 : IntsAt w A2 l2) (hl1 : l1.length ≤ 1000000000) (hl2 : l2.length ≤ 1000000000) :
    Calls Tryd.prog 14 #[.slice A1 l1.length c1, .slice A2 l2.length c2] w fun e w' => e = .returned (.bool b) ∧ Keeps (fun _ => False) w w' := by
  by_cases hlen : l1.length = l2.length
  · have HB := Lib.hid hb
    have H1 := Lib.hid h1
    have H2 := Lib.hid h2
    clear hb h1 h2 hl2
    have hlz : (l1.length : Int) = (l2.length : Int) := by omega
    generalize hn2 : l2.length = n2 at *
    subst hlen
    have Hn2 := Lib.hid hn2
    clear hlz hn2
    go_enter Tryd.func14, Tryd.ntmps14
    go_wp2
    go_loopw [5] (fun v5 wr => ∃ k q : Nat, k ≤ l1.length ∧ v5 = .int .i64 k ∧ wr = w.drewN q ∧ Hid (l1.take k = l2.take k)) (fun v5 _ => l1.length - (intOf v5).toNat)
    case atStart => exact ⟨0, 0, Nat.zero_le _, rfl, rfl, Lib.hid (by simp)⟩
    case round =>
      obtain ⟨k, q, hk, rfl, rfl, HT⟩ := hrel
      by_cases hlt : k < l1.length
      · have hlt2 : k < l2.length := by rw [Hn2.out]; exact hlt
        obtain ⟨g1, o1, rfl, hg1, hc1⟩ := H1.out (List.length_pos_iff.1 (by omega))
        obtain ⟨g2, o2, rfl, hg2, hc2⟩ := H2.out (List.length_pos_iff.1 (by omega))
        have la : ∀ n, ((w.drewN q).drewN n).cell? ⟨g1, o1 + k, none⟩ = some ((Value.int .i64) l1[k]) := fun n => by simpa using hc1 k l1[k] (List.getElem?_eq_getElem hlt)
        have lb : ∀ n, ((w.drewN q).drewN n).cell? ⟨g2, o2 + k, none⟩ = some ((Value.int .i64) l2[k]) := fun n => by simpa using hc2 k l2[k] (List.getElem?_eq_getElem hlt2)
        have Hstep := Lib.hid (take_step hlt hlt2 HT.out)
        have Hno := Lib.hid (show l1[k] ≠ l2[k] → b = false from fun hne => bool_false HB.out (fun e => hne (by subst e; rfl)))
        clear hc1 hc2
        generalize hW : w.drewN q = W at la lb ⊢
        have HW := Lib.hid hW
        clear hW
        generalize l1[k] = x at *
        generalize l2[k] = y at *
        clear hlt2
        have bk : (k : Int) < (l1.length : Int) := by omega
        by_cases hxy : x = y
        · subst hxy
          go_wp2_with fail
          go_quiet (fail)
          clear la lb
          go_wp2
          go_roundw
          case rel => exact ⟨k + 1, q + nq, by omega, by go_num, by rw [← HW.out, World.drewN_drewN], Lib.hid (Hstep.out (by trivial))⟩
          case measure => simp [intOf]; omega
        · have eb := Hno.out hxy
          subst eb
          have hxb : (x == y) = false := beq_eq_false_iff_ne.2 hxy
          go_wp2_with fail
          go_quiet (fail)
          clear la lb
          go_wp2
          go_ret
          exact ⟨rfl, by rw [← HW.out, World.drewN_drewN]; exact (Keeps.refl _ _).drewN _⟩
      · have hkn : k = l1.length := by omega
        subst hkn
        have eb : b = true := bool_true HB.out (by
          have := HT.out
          rw [List.take_length, ← Hn2.out, List.take_length] at this
          exact this)
        subst eb
        go_wp2
        go_ret
        exact ⟨rfl, (Keeps.refl _ _).drewN _⟩
  · have eb := bool_false hb (fun e => hlen (by rw [e]))
    subst eb
    clear hb
    have hq : ((l1.length : Int) == (l2.length : Int)) = false := beq_eq_false_iff_ne.2 (by omega)
    go_enter Tryd.func14, Tryd.ntmps14
    go_wp2
    go_ret
    exact ⟨rfl, Keeps.refl _ _⟩

end
end Go.Proofs.YtfpjdgobannneaaDoor

/-
  mach.Parse: its contract.
-/
namespace Go.Proofs.YtfpjdgobannneaaDoor
open Go Go.RowKit Go.Proofs.YtfpjdgobannneaaDoorW.PrintWords Go.Proofs.YtfpjdgobannneaaDoorW.PrintLast
set_option linter.unusedSimpArgs false

theorem CS.low2 {w : World} {b ib : Nat} {st : Cur} (h : CS w b ib st) (hb : b ≠ 0) : ∃ ib2, CS w b ib2 st ∧ ib2 < w.heap.size ∧ (ib2 = 0 ∨ ib2 = ib) := by
  have hlt := h.lt
  obtain ⟨A, c, h1, h2, h3, h4, h5⟩ := h
  by_cases hi : st.items = []
  · exact ⟨0, ⟨A, c, h1, h2, h3, fun hne => absurd hi hne, fun e => hb e.symm⟩, by omega, Or.inl rfl⟩
  · refine ⟨ib, ⟨A, c, h1, h2, h3, h4, h5⟩, ?_, Or.inr rfl⟩
    obtain ⟨off, hA, hc⟩ := h4 hi
    obtain ⟨x, r, hx⟩ := List.exists_cons_of_ne_nil hi
    obtain ⟨a1, _, _⟩ := hc 0 x (by rw [hx]; rfl)
    rcases Nat.lt_or_ge ib w.heap.size with q | q
    · exact q
    · simp [World.cell?, Array.getElem?_eq_none q] at a1

/-- while Parse runs: the machine's cells, the reader, the cursor -/
structure PS (w W : World) (rb b ib : Nat) (st : Cur) (a0 a1 a2 a3 : Value) : Prop where
  blk : W.heap[w.heap.size]? = some (.cells #[a0, a1, a2, a3] 24 (0, 0))
  rd : W.heap[rb]? = some (.cells #[.pointer (some ⟨b, 0, none⟩)] 51 (0, 0))
  cs : CS W b ib st
  ks : Keeps (fun _ => False) w W
  ibl : ib < W.heap.size
  bm : b ≠ w.heap.size
  im : ib ≠ w.heap.size
  rm : rb ≠ w.heap.size
  rbb : rb ≠ b
  bw : w.heap.size ≤ b

section
variable {w W W' : World} {rb b ib : Nat} {st st' : Cur} {a0 a1 a2 a3 : Value}

theorem PS.call (h : PS w W rb b ib st a0 a1 a2 a3) (k : CSK W W' b ib st') : PS w W' rb b ib st' a0 a1 a2 a3 :=
  ⟨k.2.heap h.blk (fun e => h.bm e.symm), k.2.heap h.rd h.rbb, k.1, h.ks.trans' k.2 (fun i hi e => by have := h.bw; have e2 : i = b := e; omega), by have := h.ibl; have := k.2.size; omega, h.bm, h.im, h.rm, h.rbb, h.bw⟩

theorem PS.set (h : PS w W rb b ib st a0 a1 a2 a3) (i : Nat) (v : Value) {b0 b1 b2 b3 : Value} (e : (#[a0, a1, a2, a3] : Array Value).setIfInBounds i v = #[b0, b1, b2, b3]) : PS w (W.setCell ⟨w.heap.size, i, none⟩ v) rb b ib st b0 b1 b2 b3 :=
  ⟨by rw [← e]; exact blk_set h.blk i v, blk_set_ne h.rd h.rm v, h.cs.keeps (keeps1 W w.heap.size i v) h.bm h.im, h.ks.setCell (p := ⟨w.heap.size, i, none⟩) (Or.inr (Nat.le_refl _)) v, by simp only [World.setCell, Array.size_modify]; exact h.ibl, h.bm, h.im, h.rm, h.rbb, h.bw⟩

/-- a row of numbers that was read -/
def IntsQ (w : World) (b mb : Nat) (v : Value) (xs : List Int) : Prop := (Kd.int .i64).R 3 w 0 (fun k => k ≠ b ∧ k ≠ mb) v xs

theorem IntsQ.of {base mb : Nat} {v : Value} {xs : List Int} (h : IntsR W base b v xs) (hm : mb < base) : IntsQ W b mb v xs :=
  Kd.R_lower (Kd.R_mono (Kd.R_bound h) (fun k hk => ⟨hk.1, by have := hk.2.1; omega⟩)) (Nat.zero_le _)

theorem IntsQ.keeps {S : Nat → Prop} {mb : Nat} {v : Value} {xs : List Int} (h : IntsQ W b mb v xs) (k : Keeps S W W') (hs : ∀ i, S i → i = b ∨ i = mb) : IntsQ W' b mb v xs :=
  Kd.R_step h (fun i ho hlt => k.block i hlt (fun s => by rcases hs i s with e | e; exact ho.1 e; exact ho.2 e))

theorem IntsQ.slice {mb : Nat} {v : Value} {xs : List Int} (h : IntsQ W b mb v xs) : ∃ A c, v = .slice A xs.length c ∧ IntsAt W A xs := by
  obtain ⟨A, c, rfl⟩ := Kd.R_slice h
  exact ⟨A, c, rfl, intsAt_of_R h⟩

end

theorem goIt_len : ∀ (l : List Item) (o : Bool) (p : Option Item), (goIt o p l).length ≤ l.length + p.toList.length
  | [], _, _ => by simp [goIt]
  | x :: r, o, p => by
    have h1 := goIt_len r o (p <|> some x)
    have h2 := goIt_len r o p
    have h3 := goIt_len r true none
    rw [goIt]
    split
    · split
      · cases p with
        | none => simp at h1 ⊢; omega
        | some q => simp at h1 ⊢; omega
      · simp only [List.length_cons]; omega
    · simp only [List.length_append, List.length_cons]
      simp at h3
      omega

theorem overCur_len (s : ByteArray) (hs : s.size ≤ 262144) : (overCur s).items.length ≤ 600000 := by
  have h0 : (wordRead s).1.length ≤ 599999 := by
    unfold wordRead
    split
    · have h1 := close_words (rdLoop s (s.size + 1) 0 Rd.init)
      have h2 := rdLoop_fits s (s.size + 1) 0 Rd.init (by omega) init_fits
      show (rdAll s).words.length ≤ _
      unfold rdAll
      omega
    · simp
  unfold overCur
  split
  · show (overItems (wordRead s).1).length ≤ _
    rw [overItems_go]
    have := goIt_len ((wordRead s).1.map Wd.item) false none
    simp at this
    omega
  · simp

theorem regsP_len : ∀ (g : Nat) (c : Cur), (regsP g c).2.items.length ≤ c.items.length
  | 0, c => Nat.le_refl _
  | g + 1, c => by
    rw [regsP]
    split
    · exact Nat.le_trans (regsP_len g _) (num_le _ _ _)
    · exact Nat.le_refl _

theorem regsP_fst : ∀ (g : Nat) (c : Cur), (regsP g c).1.length ≤ g
  | 0, c => by simp [regsP]
  | g + 1, c => by
    rw [regsP]
    split
    · have := regsP_fst g (c.num 0 64).2
      simp only [List.length_cons]
      omega
    · simp

theorem PS.start {w w1 : World} {b ib : Nat} {c : Cur} (h4 : 4 ≤ w.heap.size) (hb : w.heap.size + 1 ≤ b) (hib : w.heap.size + 1 ≤ ib) (hc : CS w1 b ib c)
    (hk : Keeps (fun _ => False) (w.alloc (.cells #[.int .i64 0, .slice none 0 0, .int .i64 0, .slice none 0 0] 24)) w1) :
    ∃ ib2, PS w (w1.alloc (.cells #[.pointer (some ⟨b, 0, none⟩)] 51)) w1.heap.size b ib2 c (.int .i64 0) (.slice none 0 0) (.int .i64 0) (.slice none 0 0) := by
  obtain ⟨ib2, h1, h2, h3⟩ := hc.low2 (by omega)
  have hs := hk.size
  have hlt := hc.lt
  simp at hs
  exact ⟨ib2, blk_alloc (hk.heap (blk_new w _) (fun q => q)) _, blk_new w1 _, h1.keep0 ((Keeps.refl _ _).alloc _), (((Keeps.refl _ w).alloc _).trans hk).alloc _, by simp; omega, by omega, by omega, by omega, by omega, by omega⟩

instance (m : Mch) : Decidable (RightM m) := by unfold RightM RegsOk; infer_instance

def Mch.zero : Mch := ⟨0, [], 0, []⟩

/-- what Parse tells of a cursor -/
def parseC (f : Nat) (c : Cur) : Mch × Int :=
  if (parseBy (regsP f) c).2.err.2.2 ≠ 0 then (Mch.zero, (parseBy (regsP f) c).2.err.2.2)
  else if RightM (parseBy (regsP f) c).1 then ((parseBy (regsP f) c).1, 0) else (Mch.zero, 2)

/-- what Parse tells of a text -/
def parseM (s : ByteArray) : Mch × Int := if 262144 < s.size then (Mch.zero, 3) else parseC ((overCur s).items.length + 1) (overCur s)

/-- whether a machine is right -/
def RTold (b : Bool) (m : Mch) : Prop := b = true ↔ RightM m

def ParsePost (r : Mch × Int) (w : World) (e : Ending) (w' : World) : Prop :=
  ∃ A ca S cs, e = .returned (.tuple #[r.1.V A ca S cs, .int .i64 r.2]) ∧ IntsAt w' A r.1.args ∧ IntsAt w' S r.1.saved ∧ Keeps (fun _ => False) w w'

theorem run_loadMach (W : World) (g : Nat) (cs : Array Value) (hg : W.heap[g]? = some (.cells cs 24 (0, 0))) (hs : cs.size = 4) :
    (loadVar 24 ⟨g, 0, none⟩).run Tryd.prog W = .ok (.agg cs) W := by
  have hi : (Tryd.prog.info? 24).map (·.size) = some 4 := by kernel_rfl
  exact run_loadVar_row W g 24 24 cs (0, 0) _ hg Tryd.underlying24 rfl (by rw [hi, hs])

section
set_option maxRecDepth 100000
set_option maxHeartbeats 4000000

theorem parse_long (s : ByteArray) (w : World) (hlong : 262144 < s.size) (hs : s.size ≤ 1000000000) :
    Calls Tryd.prog 9 #[.string s] w (ParsePost (Mch.zero, 3) w) := by
  have hle : ((s.size : Int) > 262144) = True := eq_true (by omega)
  have HB := Lib.hid (blk_new w (.cells #[.int .i64 0, .slice none 0 0, .int .i64 0, .slice none 0 0] 24))
  have hA0 : Keeps (fun _ => False) w (w.alloc (.cells #[.int .i64 0, .slice none 0 0, .int .i64 0, .slice none 0 0] 24)) := (Keeps.refl _ _).alloc _
  have HA0 := Lib.hid hA0
  clear hA0 hlong
  go_enter Tryd.func9, Tryd.ntmps9
  go_wp2
  refine bodyPost_ret (v := .tuple #[.agg #[.int .i64 0, .slice none 0 0, .int .i64 0, .slice none 0 0], .int .i64 3]) ?_ rfl ⟨none, 0, none, 0, rfl, fun h => absurd rfl h, fun h => absurd rfl h, HA0.out⟩
  rw [results_cell_tmp rfl]
  simp [asAddr, Result.andThen, run_loadMach _ _ _ HB.out rfl]

theorem parse_short (s : ByteArray) (w : World) (hshort : s.size ≤ 262144) (hG : Glob w) (h4 : 4 ≤ w.heap.size) :
    Calls Tryd.prog 9 #[.string s] w (ParsePost (parseC ((overCur s).items.length + 1) (overCur s)) w) := by
  have hA0 : Keeps (fun _ => False) w (w.alloc (.cells #[.int .i64 0, .slice none 0 0, .int .i64 0, .slice none 0 0] 24)) := (Keeps.refl _ _).alloc _
  have hle : ((s.size : Int) > 262144) = False := eq_false (by omega)
  have Hlen := Lib.hid (overCur_len s hshort)
  have Hover := Lib.hid (Over_calls s (w.alloc (.cells #[.int .i64 0, .slice none 0 0, .int .i64 0, .slice none 0 0] 24)) (by omega) (hG.keeps hA0 (by simp)) (by simp; omega))
  have H4 := Lib.hid h4
  clear hG h4 hshort hA0
  · go_enter Tryd.func9, Tryd.ntmps9
    go_upto_region 4 with (first | (go_at_call 19; refine Hover.out.mono ?_; rintro e w1 ⟨b, ib, rfl, hb, hib, hcs, hk⟩; have HO := Lib.hid (PS.start H4.out (by simpa using hb) (by simpa using hib) hcs hk); clear hb hib hcs hk Hover))
    obtain ⟨ib2, hp⟩ := HO.out
    have HP0 := Lib.hid hp
    have r0 := (blk_cell hp.rd 0).trans rfl
    clear hp HO
    generalize w1.heap.size = rb at *
    generalize (w1.alloc (.cells #[.pointer (some ⟨b, 0, none⟩)] 51)) = W0 at *
    clear w1
    go_upto_region 6 with (first | (go_at_call 20; refine (mkey_calls HP0.out.cs MM).mono ?_; rintro e Wa ⟨rfl, k2⟩; have HP0a := Lib.hid (HP0.out.call k2); have r0a := (blk_cell HP0a.out.rd 0).trans rfl;  clear k2 HP0 r0) | (go_at_call 21; refine (mreg_calls HP0a.out.cs).mono ?_; rintro e Wb ⟨rfl, k3⟩; have HP0b := Lib.hid (HP0a.out.call k3); have r0b := (blk_cell HP0b.out.rd 0).trans rfl; have c0b := (blk_cell HP0b.out.blk 0).trans rfl; have f0b := blk_free HP0b.out.blk 0;  clear k3 HP0a r0a))
    have HP1 := Lib.hid (HP0b.out.set 0 (.int .i64 (((overCur s).must MM).num 0 64).1) rfl)
    have r1 := (blk_cell HP1.out.rd 0).trans rfl
    clear HP0b r0b c0b f0b
    generalize Wb.setCell ⟨w.heap.size, 0, none⟩ (.int .i64 (((overCur s).must MM).num 0 64).1) = W1 at *
    clear Wa Wb
    go_upto_region 8 with (first | (go_at_call 20; refine (mkey_calls HP1.out.cs MA).mono ?_; rintro e Wa ⟨rfl, k2⟩; have HP1a := Lib.hid (HP1.out.call k2); have r1a := (blk_cell HP1a.out.rd 0).trans rfl;  clear k2 HP1 r1) | (go_at_call 22; refine (mregs_calls HP1a.out.cs ((overCur s).items.length + 1) (Nat.lt_succ_of_le (Nat.le_trans (must_len _ _) (Nat.le_trans (num_le _ _ _) (must_len _ _)))) (by have := Hlen.out; omega) HP1a.out.ibl).mono ?_; rintro e Wb ⟨v1, rfl, hv, k3⟩; obtain ⟨A1, ca1, rfl⟩ := Kd.R_slice hv; have IQ1b := Lib.hid (IntsQ.of hv (show w.heap.size < Wa.heap.size from lt_of_heap HP1a.out.blk)); have HP1b := Lib.hid (HP1a.out.call k3); have r1b := (blk_cell HP1b.out.rd 0).trans rfl; have c1b := (blk_cell HP1b.out.blk 1).trans rfl; have f1b := blk_free HP1b.out.blk 1;  clear hv k3 HP1a r1a))
    have HP2 := Lib.hid (HP1b.out.set 1 (.slice A1 (regsP ((overCur s).items.length + 1) ((((overCur s).must MM).num 0 64).2.must MA)).1.length ca1) rfl)
    have IQ1 := Lib.hid (IQ1b.out.keeps (keeps1 Wb w.heap.size 1 (.slice A1 (regsP ((overCur s).items.length + 1) ((((overCur s).must MM).num 0 64).2.must MA)).1.length ca1)) (fun _ q => Or.inr q))
    have r2 := (blk_cell HP2.out.rd 0).trans rfl
    clear HP1b r1b c1b f1b IQ1b
    generalize Wb.setCell ⟨w.heap.size, 1, none⟩ (.slice A1 (regsP ((overCur s).items.length + 1) ((((overCur s).must MM).num 0 64).2.must MA)).1.length ca1) = W2 at *
    clear Wa Wb
    go_upto_region 10 with (first | (go_at_call 20; refine (mkey_calls HP2.out.cs MR).mono ?_; rintro e Wa ⟨rfl, k2⟩; have HP2a := Lib.hid (HP2.out.call k2); have r2a := (blk_cell HP2a.out.rd 0).trans rfl; have IQ1a := Lib.hid (IQ1.out.keeps k2.2 (fun _ q => Or.inl q)); clear IQ1; clear k2 HP2 r2) | (go_at_call 21; refine (mreg_calls HP2a.out.cs).mono ?_; rintro e Wb ⟨rfl, k3⟩; have HP2b := Lib.hid (HP2a.out.call k3); have r2b := (blk_cell HP2b.out.rd 0).trans rfl; have c2b := (blk_cell HP2b.out.blk 2).trans rfl; have f2b := blk_free HP2b.out.blk 2; have IQ1b := Lib.hid (IQ1a.out.keeps k3.2 (fun _ q => Or.inl q)); clear IQ1a; clear k3 HP2a r2a))
    have HP3 := Lib.hid (HP2b.out.set 2 (.int .i64 (((regsP ((overCur s).items.length + 1) ((((overCur s).must MM).num 0 64).2.must MA)).2.must MR).num 0 64).1) rfl)
    have IQ1 := Lib.hid (IQ1b.out.keeps (keeps1 Wb w.heap.size 2 (.int .i64 (((regsP ((overCur s).items.length + 1) ((((overCur s).must MM).num 0 64).2.must MA)).2.must MR).num 0 64).1)) (fun _ q => Or.inr q))
    have r3 := (blk_cell HP3.out.rd 0).trans rfl
    clear HP2b r2b c2b f2b IQ1b
    generalize Wb.setCell ⟨w.heap.size, 2, none⟩ (.int .i64 (((regsP ((overCur s).items.length + 1) ((((overCur s).must MM).num 0 64).2.must MA)).2.must MR).num 0 64).1) = W3 at *
    clear Wa Wb
    go_upto_region 12 with (first | (go_at_call 20; refine (mkey_calls HP3.out.cs MS).mono ?_; rintro e Wa ⟨rfl, k2⟩; have HP3a := Lib.hid (HP3.out.call k2); have r3a := (blk_cell HP3a.out.rd 0).trans rfl; have IQ1a := Lib.hid (IQ1.out.keeps k2.2 (fun _ q => Or.inl q)); clear IQ1; clear k2 HP3 r3) | (go_at_call 22; refine (mregs_calls HP3a.out.cs ((overCur s).items.length + 1) (Nat.lt_succ_of_le (Nat.le_trans (must_len _ _) (Nat.le_trans (num_le _ _ _) (Nat.le_trans (must_len _ _) (Nat.le_trans (regsP_len _ _) (Nat.le_trans (must_len _ _) (Nat.le_trans (num_le _ _ _) (must_len _ _)))))))) (by have := Hlen.out; omega) HP3a.out.ibl).mono ?_; rintro e Wb ⟨v3, rfl, hv, k3⟩; obtain ⟨A3, ca3, rfl⟩ := Kd.R_slice hv; have IQ3b := Lib.hid (IntsQ.of hv (show w.heap.size < Wa.heap.size from lt_of_heap HP3a.out.blk)); have HP3b := Lib.hid (HP3a.out.call k3); have r3b := (blk_cell HP3b.out.rd 0).trans rfl; have c3b := (blk_cell HP3b.out.blk 3).trans rfl; have f3b := blk_free HP3b.out.blk 3; have IQ1b := Lib.hid (IQ1a.out.keeps k3.2 (fun _ q => Or.inl q)); clear IQ1a; clear hv k3 HP3a r3a))
    have HP4 := Lib.hid (HP3b.out.set 3 (.slice A3 (regsP ((overCur s).items.length + 1) (((((regsP ((overCur s).items.length + 1) ((((overCur s).must MM).num 0 64).2.must MA)).2).must MR).num 0 64).2.must MS)).1.length ca3) rfl)
    have IQ1 := Lib.hid (IQ1b.out.keeps (keeps1 Wb w.heap.size 3 (.slice A3 (regsP ((overCur s).items.length + 1) (((((regsP ((overCur s).items.length + 1) ((((overCur s).must MM).num 0 64).2.must MA)).2).must MR).num 0 64).2.must MS)).1.length ca3)) (fun _ q => Or.inr q))
    have IQ3 := Lib.hid (IQ3b.out.keeps (keeps1 Wb w.heap.size 3 (.slice A3 (regsP ((overCur s).items.length + 1) (((((regsP ((overCur s).items.length + 1) ((((overCur s).must MM).num 0 64).2.must MA)).2).must MR).num 0 64).2.must MS)).1.length ca3)) (fun _ q => Or.inr q))
    have r4 := (blk_cell HP4.out.rd 0).trans rfl
    clear HP3b r3b c3b f3b IQ1b IQ3b
    generalize Wb.setCell ⟨w.heap.size, 3, none⟩ (.slice A3 (regsP ((overCur s).items.length + 1) (((((regsP ((overCur s).items.length + 1) ((((overCur s).must MM).num 0 64).2.must MA)).2).must MR).num 0 64).2.must MS)).1.length ca3) = W4 at *
    clear Wa Wb
    have Hl1 := Lib.hid (show (regsP ((overCur s).items.length + 1) ((((overCur s).must MM).num 0 64).2.must MA)).1.length ≤ 600001 from Nat.le_trans (regsP_fst _ _) (by have := Hlen.out; omega))
    have Hl3 := Lib.hid (show (regsP ((overCur s).items.length + 1) (((((regsP ((overCur s).items.length + 1) ((((overCur s).must MM).num 0 64).2.must MA)).2).must MR).num 0 64).2.must MS)).1.length ≤ 600001 from Nat.le_trans (regsP_fst _ _) (by have := Hlen.out; omega))
    have Hby := Lib.hid (show parseBy (regsP ((overCur s).items.length + 1)) (overCur s) = (⟨(((overCur s).must MM).num 0 64).1, (regsP ((overCur s).items.length + 1) ((((overCur s).must MM).num 0 64).2.must MA)).1, ((((regsP ((overCur s).items.length + 1) ((((overCur s).must MM).num 0 64).2.must MA)).2).must MR).num 0 64).1, (regsP ((overCur s).items.length + 1) (((((regsP ((overCur s).items.length + 1) ((((overCur s).must MM).num 0 64).2.must MA)).2).must MR).num 0 64).2.must MS)).1⟩, (regsP ((overCur s).items.length + 1) (((((regsP ((overCur s).items.length + 1) ((((overCur s).must MM).num 0 64).2.must MA)).2).must MR).num 0 64).2.must MS)).2) from rfl)
    generalize (regsP ((overCur s).items.length + 1) (((((regsP ((overCur s).items.length + 1) ((((overCur s).must MM).num 0 64).2.must MA)).2).must MR).num 0 64).2.must MS)).1 = l3 at *
    generalize (regsP ((overCur s).items.length + 1) (((((regsP ((overCur s).items.length + 1) ((((overCur s).must MM).num 0 64).2.must MA)).2).must MR).num 0 64).2.must MS)).2 = c4 at *
    generalize ((((regsP ((overCur s).items.length + 1) ((((overCur s).must MM).num 0 64).2.must MA)).2).must MR).num 0 64).1 = n2 at *
    generalize (regsP ((overCur s).items.length + 1) ((((overCur s).must MM).num 0 64).2.must MA)).1 = l1 at *
    generalize (((overCur s).must MM).num 0 64).1 = n1 at *
    have Hpc := Lib.hid (show parseC ((overCur s).items.length + 1) (overCur s) = if c4.err.2.2 ≠ 0 then (Mch.zero, c4.err.2.2) else if RightM ⟨n1, l1, n2, l3⟩ then (⟨n1, l1, n2, l3⟩, 0) else (Mch.zero, 2) from by unfold parseC; rw [Hby.out])
    clear Hby Hlen
    generalize he3 : c4.err.2.2 = e3 at *
    have He3 := Lib.hid he3
    clear he3
    by_cases hz : e3 = 0
    · subst hz
      by_cases hr : RightM ⟨n1, l1, n2, l3⟩
      · have hres := Hpc.out
        rw [if_neg (by simp), if_pos hr] at hres
        have Hres := Lib.hid hres
        have Hr := Lib.hid (show RTold true ⟨n1, l1, n2, l3⟩ from ⟨fun _ => hr, fun _ => rfl⟩)
        clear hr hres Hpc
        go_wp2_with (first | (go_at_call 23; have m5 := Err_calls HP4.out.cs; rw [He3.out] at m5; refine m5.mono ?_; clear m5; rintro e Wa ⟨rfl, k5⟩; have HB5 := Lib.hid (k5.heap HP4.out.blk (fun q => q)); have HK5 := Lib.hid (HP4.out.ks.trans k5); have IQ1a := Lib.hid (IQ1.out.keeps k5 (fun _ q => q.elim)); have IQ3a := Lib.hid (IQ3.out.keeps k5 (fun _ q => q.elim)); have c0 := (blk_cell HB5.out 0).trans rfl; have c1 := (blk_cell HB5.out 1).trans rfl; have c2 := (blk_cell HB5.out 2).trans rfl; have c3 := (blk_cell HB5.out 3).trans rfl; have f0 := blk_free HB5.out 0; have f1 := blk_free HB5.out 1; have f2 := blk_free HB5.out 2; have f3 := blk_free HB5.out 3; clear k5 HP4 IQ1 IQ3 r4) | (go_at_call 7; have m6 := right_says true ⟨n1, l1, n2, l3⟩ Hr.out A1 ca1 A3 ca3 _ (intsAt_of_R IQ1a.out) (intsAt_of_R IQ3a.out) (by have := Hl1.out; simp only; omega) (by have := Hl3.out; simp only; omega); simp only [Mch.V] at m6; refine m6.mono ?_; clear m6; rintro e Wb ⟨rfl, k6⟩; have HB6 := Lib.hid (k6.heap HB5.out (fun q => q)); have HK6 := Lib.hid (HK5.out.trans k6); have IQ1b := Lib.hid (IQ1a.out.keeps k6 (fun _ q => q.elim)); have IQ3b := Lib.hid (IQ3a.out.keeps k6 (fun _ q => q.elim)); clear c0 c1 c2 c3 f0 f1 f2 f3; have c0 := (blk_cell HB6.out 0).trans rfl; have c1 := (blk_cell HB6.out 1).trans rfl; have c2 := (blk_cell HB6.out 2).trans rfl; have c3 := (blk_cell HB6.out 3).trans rfl; have f0 := blk_free HB6.out 0; have f1 := blk_free HB6.out 1; have f2 := blk_free HB6.out 2; have f3 := blk_free HB6.out 3; clear k6 HB5 HK5 IQ1a IQ3a))
        have hbf : ((((Wb.setCell ⟨w.heap.size, 0, none⟩ (.int .i64 n1)).setCell ⟨w.heap.size, 1, none⟩ (.slice A1 l1.length ca1)).setCell ⟨w.heap.size, 2, none⟩ (.int .i64 n2)).setCell ⟨w.heap.size, 3, none⟩ (.slice A3 l3.length ca3)).heap[w.heap.size]? = some (.cells #[.int .i64 n1, .slice A1 l1.length ca1, .int .i64 n2, .slice A3 l3.length ca3] 24 (0, 0)) := blk_set (blk_set (blk_set (blk_set HB6.out 0 _) 1 _) 2 _) 3 _
        have kk : Keeps (fun k => k = w.heap.size) Wb ((((Wb.setCell ⟨w.heap.size, 0, none⟩ (.int .i64 n1)).setCell ⟨w.heap.size, 1, none⟩ (.slice A1 l1.length ca1)).setCell ⟨w.heap.size, 2, none⟩ (.int .i64 n2)).setCell ⟨w.heap.size, 3, none⟩ (.slice A3 l3.length ca3)) := ((((Keeps.refl (fun k => k = w.heap.size) Wb).set1 0 _).set1 1 _).set1 2 _).set1 3 _
        have q1 := intsAt_of_R (IQ1b.out.keeps kk (fun _ q => Or.inr q))
        have q3 := intsAt_of_R (IQ3b.out.keeps kk (fun _ q => Or.inr q))
        refine bodyPost_ret (v := .tuple #[.agg #[.int .i64 n1, .slice A1 l1.length ca1, .int .i64 n2, .slice A3 l3.length ca3], .int .i64 0]) ?_ rfl (by rw [Hres.out]; exact ⟨A1, ca1, A3, ca3, rfl, q1, q3, HK6.out.trans' kk (fun i hi e => by have e2 : i = w.heap.size := e; omega)⟩)
        rw [results_cell_tmp rfl]
        simp [asAddr, Result.andThen, run_loadMach _ _ _ hbf rfl]
      · have hres := Hpc.out
        rw [if_neg (by simp), if_neg hr] at hres
        have Hres := Lib.hid hres
        have Hr := Lib.hid (show RTold false ⟨n1, l1, n2, l3⟩ from ⟨fun h => (by cases h), fun h => absurd h hr⟩)
        clear hr hres Hpc
        go_wp2_with (first | (go_at_call 23; have m5 := Err_calls HP4.out.cs; rw [He3.out] at m5; refine m5.mono ?_; clear m5; rintro e Wa ⟨rfl, k5⟩; have HB5 := Lib.hid (k5.heap HP4.out.blk (fun q => q)); have HK5 := Lib.hid (HP4.out.ks.trans k5); have IQ1a := Lib.hid (IQ1.out.keeps k5 (fun _ q => q.elim)); have IQ3a := Lib.hid (IQ3.out.keeps k5 (fun _ q => q.elim)); have c0 := (blk_cell HB5.out 0).trans rfl; have c1 := (blk_cell HB5.out 1).trans rfl; have c2 := (blk_cell HB5.out 2).trans rfl; have c3 := (blk_cell HB5.out 3).trans rfl; have f0 := blk_free HB5.out 0; have f1 := blk_free HB5.out 1; have f2 := blk_free HB5.out 2; have f3 := blk_free HB5.out 3; clear k5 HP4 IQ1 IQ3 r4) | (go_at_call 7; have m6 := right_says false ⟨n1, l1, n2, l3⟩ Hr.out A1 ca1 A3 ca3 _ (intsAt_of_R IQ1a.out) (intsAt_of_R IQ3a.out) (by have := Hl1.out; simp only; omega) (by have := Hl3.out; simp only; omega); simp only [Mch.V] at m6; refine m6.mono ?_; clear m6; rintro e Wb ⟨rfl, k6⟩; have HB6 := Lib.hid (k6.heap HB5.out (fun q => q)); have HK6 := Lib.hid (HK5.out.trans k6); have IQ1b := Lib.hid (IQ1a.out.keeps k6 (fun _ q => q.elim)); have IQ3b := Lib.hid (IQ3a.out.keeps k6 (fun _ q => q.elim)); clear c0 c1 c2 c3 f0 f1 f2 f3; have c0 := (blk_cell HB6.out 0).trans rfl; have c1 := (blk_cell HB6.out 1).trans rfl; have c2 := (blk_cell HB6.out 2).trans rfl; have c3 := (blk_cell HB6.out 3).trans rfl; have f0 := blk_free HB6.out 0; have f1 := blk_free HB6.out 1; have f2 := blk_free HB6.out 2; have f3 := blk_free HB6.out 3; clear k6 HB5 HK5 IQ1a IQ3a))
        have hbf : ((((Wb.setCell ⟨w.heap.size, 0, none⟩ (.int .i64 0)).setCell ⟨w.heap.size, 1, none⟩ (.slice none 0 0)).setCell ⟨w.heap.size, 2, none⟩ (.int .i64 0)).setCell ⟨w.heap.size, 3, none⟩ (.slice none 0 0)).heap[w.heap.size]? = some (.cells #[.int .i64 0, .slice none 0 0, .int .i64 0, .slice none 0 0] 24 (0, 0)) := blk_set (blk_set (blk_set (blk_set HB6.out 0 _) 1 _) 2 _) 3 _
        refine bodyPost_ret (v := .tuple #[.agg #[.int .i64 0, .slice none 0 0, .int .i64 0, .slice none 0 0], .int .i64 2]) ?_ rfl (by rw [Hres.out]; exact ⟨none, 0, none, 0, rfl, fun h => absurd rfl h, fun h => absurd rfl h, (((HK6.out.setCell (p := ⟨w.heap.size, 0, none⟩) (Or.inr (Nat.le_refl _)) _).setCell (p := ⟨w.heap.size, 1, none⟩) (Or.inr (Nat.le_refl _)) _).setCell (p := ⟨w.heap.size, 2, none⟩) (Or.inr (Nat.le_refl _)) _).setCell (p := ⟨w.heap.size, 3, none⟩) (Or.inr (Nat.le_refl _)) _⟩)
        rw [results_cell_tmp rfl]
        simp [asAddr, Result.andThen, run_loadMach _ _ _ hbf rfl]
    · have hres := Hpc.out
      rw [if_pos hz] at hres
      have Hres := Lib.hid hres
      have hzb : (e3 == 0) = false := beq_eq_false_iff_ne.2 hz
      clear hz hres Hpc
      go_wp2_with (first | (go_at_call 23; have m5 := Err_calls HP4.out.cs; rw [He3.out] at m5; refine m5.mono ?_; clear m5; rintro e Wa ⟨rfl, k5⟩; have HB5 := Lib.hid (k5.heap HP4.out.blk (fun q => q)); have HK5 := Lib.hid (HP4.out.ks.trans k5); have IQ1a := Lib.hid (IQ1.out.keeps k5 (fun _ q => q.elim)); have IQ3a := Lib.hid (IQ3.out.keeps k5 (fun _ q => q.elim)); have c0 := (blk_cell HB5.out 0).trans rfl; have c1 := (blk_cell HB5.out 1).trans rfl; have c2 := (blk_cell HB5.out 2).trans rfl; have c3 := (blk_cell HB5.out 3).trans rfl; have f0 := blk_free HB5.out 0; have f1 := blk_free HB5.out 1; have f2 := blk_free HB5.out 2; have f3 := blk_free HB5.out 3; clear k5 HP4 IQ1 IQ3 r4))
      have hbf : ((((Wa.setCell ⟨w.heap.size, 0, none⟩ (.int .i64 0)).setCell ⟨w.heap.size, 1, none⟩ (.slice none 0 0)).setCell ⟨w.heap.size, 2, none⟩ (.int .i64 0)).setCell ⟨w.heap.size, 3, none⟩ (.slice none 0 0)).heap[w.heap.size]? = some (.cells #[.int .i64 0, .slice none 0 0, .int .i64 0, .slice none 0 0] 24 (0, 0)) := blk_set (blk_set (blk_set (blk_set HB5.out 0 _) 1 _) 2 _) 3 _
      refine bodyPost_ret (v := .tuple #[.agg #[.int .i64 0, .slice none 0 0, .int .i64 0, .slice none 0 0], .int .i64 e3]) ?_ rfl (by rw [Hres.out]; exact ⟨none, 0, none, 0, rfl, fun h => absurd rfl h, fun h => absurd rfl h, (((HK5.out.setCell (p := ⟨w.heap.size, 0, none⟩) (Or.inr (Nat.le_refl _)) _).setCell (p := ⟨w.heap.size, 1, none⟩) (Or.inr (Nat.le_refl _)) _).setCell (p := ⟨w.heap.size, 2, none⟩) (Or.inr (Nat.le_refl _)) _).setCell (p := ⟨w.heap.size, 3, none⟩) (Or.inr (Nat.le_refl _)) _⟩)
      rw [results_cell_tmp rfl]
      simp [asAddr, Result.andThen, run_loadMach _ _ _ hbf rfl]

theorem parse_calls (s : ByteArray) (w : World) (hs : s.size ≤ 1000000000) (hG : Glob w) (h4 : 4 ≤ w.heap.size) :
    Calls Tryd.prog 9 #[.string s] w (ParsePost (parseM s) w) := by
  unfold parseM
  split
  · exact parse_long s w (by assumption) hs
  · exact parse_short s w (by omega) hG h4

end
end Go.Proofs.YtfpjdgobannneaaDoor

/-
  intarsialaw05.awake: its contract.
-/
namespace Go.Proofs.YtfpjdgobannneaaDoor
open Go Go.RowKit Go.Proofs.YtfpjdgobannneaaDoorW.PrintWords Go.Proofs.YtfpjdgobannneaaDoorW.PrintLast
set_option linter.unusedSimpArgs false

/-- the chapter's example -/
def exT : ByteArray := ⟨#[109, 97, 99, 104, 105, 110, 101, 32, 52, 32, 97, 114, 103, 115, 32, 48, 32, 49, 32, 114, 101, 116, 32, 48, 32, 115, 97, 118, 101, 100, 32, 50, 32, 51]⟩

def exM : Mch := ⟨4, [0, 1], 0, [2, 3]⟩

set_option maxRecDepth 100000 in
theorem exT_parse : parseM exT = (exM, 0) := by
  kernel_rfl

theorem exM_right : RightM exM := by decide

theorem exM_lost : exM.lostTo 4 = [0, 1] := by decide

/-- what Parse tells of the example -/
def LitPost (w : World) (e : Ending) (w' : World) : Prop :=
  ∃ A ca S cs, e = .returned (.tuple #[.agg #[.int .i64 4, .slice A 2 ca, .int .i64 0, .slice S 2 cs], .int .i64 0]) ∧ IntsAt w' A [0, 1] ∧ IntsAt w' S [2, 3] ∧ Keeps (fun _ => False) w w'

theorem lit_calls (w : World) (hG : Glob w) (h4 : 4 ≤ w.heap.size) : Calls Tryd.prog 9 #[.string exT] w (LitPost w) := by
  have h := parse_calls exT w (by decide) hG h4
  rw [exT_parse] at h
  exact h

/-- a row that is written out -/
theorem intsAt_lit (w : World) (t : TypeId) (a b : Int) : IntsAt (w.alloc (.cells #[.int .i64 a, .int .i64 b] t)) (some ⟨w.heap.size, 0, none⟩) [a, b] := by
  intro _
  refine ⟨w.heap.size, 0, rfl, by simp, fun j x hj => ?_⟩
  rw [Nat.zero_add, blk_cell (blk_new w _) j]
  match j, hj with
  | 0, hj => simp at hj; subst hj; rfl
  | 1, hj => simp at hj; subst hj; rfl

/-- while awake runs -/
structure AW (w W : World) (ab : Nat) (A : Option Addr) (ca : Nat) (S : Option Addr) (cs : Nat) : Prop where
  blk : W.heap[ab]? = some (.cells #[.int .i64 4, .slice A 2 ca, .int .i64 0, .slice S 2 cs] 24 (0, 0))
  args : IntsAt W A [0, 1]
  saved : IntsAt W S [2, 3]
  ks : Keeps (fun _ => False) w W

theorem AW.keep {w W W' : World} {ab : Nat} {A : Option Addr} {ca : Nat} {S : Option Addr} {cs : Nat} (h : AW w W ab A ca S cs) (k : Keeps (fun _ => False) W W') : AW w W' ab A ca S cs :=
  ⟨k.heap h.blk (fun q => q), h.args.keep0 k, h.saved.keep0 k, h.ks.trans k⟩

theorem AW.cells {w W : World} {ab : Nat} {A : Option Addr} {ca : Nat} {S : Option Addr} {cs : Nat} (h : AW w W ab A ca S cs) :
    W.cell? ⟨ab, 0, none⟩ = some (.int .i64 4) ∧ W.cell? ⟨ab, 1, none⟩ = some (.slice A 2 ca) ∧ W.cell? ⟨ab, 2, none⟩ = some (.int .i64 0) ∧ W.cell? ⟨ab, 3, none⟩ = some (.slice S 2 cs) :=
  ⟨(blk_cell h.blk 0).trans rfl, (blk_cell h.blk 1).trans rfl, (blk_cell h.blk 2).trans rfl, (blk_cell h.blk 3).trans rfl⟩

def SameTold (b : Bool) (l1 l2 : List Int) : Prop := b = true ↔ l1 = l2

section
variable (A : Option Addr) (ca : Nat) (S : Option Addr) (cs : Nat) (W : World) (hA : IntsAt W A [0, 1]) (hS : IntsAt W S [2, 3])
include hA hS

theorem ex_right : Calls Tryd.prog 7 #[.agg #[.int .i64 4, .slice A 2 ca, .int .i64 0, .slice S 2 cs]] W fun e w' => e = .returned (.bool true) ∧ Keeps (fun _ => False) W w' :=
  right_says true exM ⟨fun _ => exM_right, fun _ => rfl⟩ A ca S cs W hA hS (by decide) (by decide)

theorem ex_lost : Calls Tryd.prog 11 #[.agg #[.int .i64 4, .slice A 2 ca, .int .i64 0, .slice S 2 cs]] W fun e w' => ∃ B c, e = .returned (.slice B 2 c) ∧ IntsAt w' B [0, 1] ∧ Keeps (fun _ => False) W w' := by
  refine (lost_yes exM exM_right A ca S cs W hA hS (by decide) (by decide)).mono ?_
  rintro e w' ⟨v, rfl, ho, k⟩
  have e4 : exM.lostTo exM.regs.toNat = [0, 1] := exM_lost
  rw [e4] at ho
  obtain ⟨B, c, rfl, hB⟩ := ho.slice
  exact ⟨B, c, rfl, hB, k⟩

theorem ex_saved : Calls Tryd.prog 13 #[.agg #[.int .i64 4, .slice A 2 ca, .int .i64 0, .slice S 2 cs], .int .i64 3] W fun e w' => e = .returned (.bool true) ∧ Keeps (fun _ => False) W w' :=
  issaved_says true exM 3 ⟨fun _ => by decide, fun _ => rfl⟩ A ca S cs W hA hS (by decide)

theorem ex_keeps : Calls Tryd.prog 12 #[.agg #[.int .i64 4, .slice A 2 ca, .int .i64 0, .slice S 2 cs]] W fun e w' => ∃ B c, e = .returned (.slice B 2 c) ∧ Keeps (fun _ => False) W w' := by
  refine (keeps_yes exM exM_right A ca S cs W hA hS (by decide) (by decide)).mono ?_
  rintro e w' ⟨v, rfl, ho, k⟩
  obtain ⟨B, c, rfl⟩ := Kd.R_slice ho
  exact ⟨B, c, rfl, k⟩

end

section
set_option maxRecDepth 100000
set_option maxHeartbeats 4000000

theorem mawake_calls (w : World) (hG : Glob w) (h4 : 4 ≤ w.heap.size) : Calls Tryd.prog 5 #[] w fun e w' => e = .returned (.bool true) ∧ Keeps (fun _ => False) w w' := by
  have Hlit := Lib.hid (lit_calls w hG h4)
  clear hG h4
  go_enter Tryd.func5, Tryd.ntmps5
  go_upto_region 2 with (first | (go_at_call 9; refine Hlit.out.mono ?_; rintro e w1 ⟨A, ca, S, cs, rfl, hA, hS, k⟩; have HA := Lib.hid (AW.mk (ab := w1.heap.size) (blk_new w1 (.cells #[.int .i64 4, .slice A 2 ca, .int .i64 0, .slice S 2 cs] 24)) (hA.keep0 ((Keeps.refl _ _).alloc _)) (hS.keep0 ((Keeps.refl _ _).alloc _)) (k.alloc _)); clear hA hS k Hlit))
  obtain ⟨c0, c1, c2, c3⟩ := HA.out.cells
  generalize w1.heap.size = ab at *
  generalize (w1.alloc (.cells #[.int .i64 4, .slice A 2 ca, .int .i64 0, .slice S 2 cs] 24)) = W0 at *
  go_wp2_with (first | (go_at_call 7; refine (ex_right A ca S cs _ HA.out.args HA.out.saved).mono ?_; rintro e W1 ⟨rfl, k⟩; have HB := Lib.hid (HA.out.keep k); clear c0 c1 c2 c3 HA k; obtain ⟨c0, c1, c2, c3⟩ := HB.out.cells) | (go_at_call 11; refine (ex_lost A ca S cs _ HB.out.args HB.out.saved).mono ?_; rintro e W2 ⟨L, lc, rfl, hL, k⟩; have HL := Lib.hid (hL.keep0 ((Keeps.refl (fun _ => False) W2).alloc (.cells #[.int .i64 0, .int .i64 1] 3))); have HC := Lib.hid ((HB.out.keep k).keep ((Keeps.refl _ _).alloc (.cells #[.int .i64 0, .int .i64 1] 3))); clear c0 c1 c2 c3 HB k hL) | (go_at_call 14; refine (sameints_says true [0, 1] [0, 1] ⟨fun _ => rfl, fun _ => rfl⟩ L lc (some ⟨W2.heap.size, 0, none⟩) 2 _ HL.out (intsAt_lit W2 3 0 1) (by decide) (by decide)).mono ?_; rintro e W3 ⟨rfl, k⟩; have HD := Lib.hid (HC.out.keep k); clear HC k HL; obtain ⟨c0, c1, c2, c3⟩ := HD.out.cells) | (go_at_call 13; refine (ex_saved A ca S cs _ HD.out.args HD.out.saved).mono ?_; rintro e W4 ⟨rfl, k⟩; have HE := Lib.hid (HD.out.keep k); clear c0 c1 c2 c3 HD k; obtain ⟨c0, c1, c2, c3⟩ := HE.out.cells) | (go_at_call 12; refine (ex_keeps A ca S cs _ HE.out.args HE.out.saved).mono ?_; rintro e W5 ⟨F, fc, rfl, k⟩; have HF := Lib.hid (HE.out.ks.trans k); clear c0 c1 c2 c3 HE k))
  go_ret
  exact ⟨rfl, HF.out⟩

end
end Go.Proofs.YtfpjdgobannneaaDoor
