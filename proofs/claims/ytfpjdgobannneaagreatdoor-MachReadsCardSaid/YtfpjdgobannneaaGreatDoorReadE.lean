
/-
  The document's machine reader (intarsiaref05): the contracts of key and numbers.
-/
import Derived.Test.YtfpjdgobannneaaGreatDoorMachS
import Derived.Test.YtfpjdgobannneaaGreatDoorRcD
import Derived.Test.YtfpjdgobannneaaGreatDoorRefM
import Derived.Test.YtfpjdgobannneaaGreatDoorCards
import Derived.Test.YtfpjdgobannneaaGreatDoorTie
import Derived.Test.YtfpjdgobannneaaGreatDoorLaid
namespace Go.Proofs.YtfpjdgobannneaaGreatDoor
open Go Go.RowKit Go.Proofs.YtfpjdgobannneaaGreatDoorW.PrintWords Go.Proofs.YtfpjdgobannneaaGreatDoorW.PrintLast
set_option linter.unusedSimpArgs false

section
set_option maxRecDepth 100000
set_option maxHeartbeats 4000000
variable {b g : Nat} {st : Cur} {w : World}

theorem rkey5_calls (h : RCur w b g st) (s : ByteArray) :
    Calls Tryz.prog 33 #[.pointer (some ⟨b, 0, none⟩), .string s] w fun e w' => e = .returned (.tuple #[]) ∧ RCK w w' b g (st.must s) := by
  have H := Lib.hid h
  clear h
  cases hi : st.is (.name s) with
  | true =>
    have em : st.must s = st.isTo (.name s) := by
      unfold Cur.must Cur.isTo
      rw [if_pos hi, if_pos hi]
    rw [em]
    have Hi := Lib.hid hi
    clear hi em
    go_enter Tryz.func33, Tryz.ntmps33
    go_wp2_with (first | (go_at_call 61; have m2 := rkey_calls H.out s; rw [Hi.out] at m2; refine m2.mono ?_; clear m2; rintro e w2 ⟨rfl, c2⟩; have Fin := Lib.hid c2; clear c2))
    go_end0
    exact ⟨rfl, Fin.out⟩
  | false =>
    have em : st.must s = st.fail 7 := by
      unfold Cur.must
      rw [hi]
      rfl
    have et : st.isTo (.name s) = st := by
      unfold Cur.isTo
      rw [hi]
      rfl
    rw [em]
    have Hi := Lib.hid hi
    have Et := Lib.hid et
    clear hi em et
    go_enter Tryz.func33, Tryz.ntmps33
    go_wp2_with (first | (go_at_call 61; have m2 := rkey_calls H.out s; rw [Hi.out, Et.out] at m2; refine m2.mono ?_; clear m2; rintro e w2 ⟨rfl, c2⟩; have C2 := Lib.hid c2; clear c2) | (go_at_call 62; refine (rfail_calls C2.out.1 7).mono ?_; rintro e w3 ⟨rfl, c3⟩; have Fin := Lib.hid (C2.out.trans c3); clear c3))
    go_end0
    exact ⟨rfl, Fin.out⟩

theorem rhead {x : Wd} {r : List Wd} (hk : x.kind = 1 ∨ x.kind = 2 ∨ x.kind = 3 ∨ x.kind = 4) : (rcur (x :: r) 0 0 0).headNum = (x.kind == 2) := by
  show x.item.has.asNum.2 = _
  rw [ritem_num hk]

theorem rnums_calls (h : RCur w b g st) (F : Nat) (hF : st.items.length < F) (hF2 : F ≤ 1000000000) (hg : g < w.heap.size) :
    Calls Tryz.prog 35 #[.pointer (some ⟨b, 0, none⟩)] w fun e w' => ∃ v, e = .returned v ∧ IntsR w' w.heap.size b v (regsR F st).1 ∧ RCK w w' b g (regsR F st).2 := by
  have hlt := h.lt
  have H1 := Lib.hid h
  clear h
  go_enter Tryz.func35, Tryz.ntmps35
  go_wp2
  go_loopw [3] (fun v3 wr => ∃ (xs : List Int) (f : Nat) (c : Cur), Hid (IntsR wr w.heap.size b v3 xs) ∧ Hid (regsR F st = (xs ++ (regsR f c).1, (regsR f c).2)) ∧ Hid ((c.items.length < f ∨ c.more = false) ∧ xs.length + f = F) ∧ Hid (RCur wr b g c) ∧ Hid (Keeps (fun k => k = b) w wr)) (fun v3 _ => F - lenOf v3)
  case atStart => exact ⟨[], F, st, Lib.hid (Kd.R_nil _ _ _ _ _), Lib.hid rfl, Lib.hid ⟨Or.inl hF, by simp⟩, H1, Lib.hid (Keeps.refl _ _)⟩
  case round =>
    obtain ⟨xs, f, c, HR, HE, HF, HC, HK⟩ := hrel
    clear H1
    have Hlen := Lib.hid HR.out.len
    have Hg := Lib.hid hg
    have Hlt := Lib.hid hlt
    have HF2 := Lib.hid hF2
    have stop : ∀ {f : Nat}, ¬ (c.more = true ∧ c.headNum = true) → regsR f c = ([], c) := fun {f} q => by
      cases f with
      | zero => rfl
      | succ f => rw [regsR, if_neg q]
    have Stop := Lib.hid (fun (q : ¬ (c.more = true ∧ c.headNum = true)) => show regsR F st = (xs, c) from by rw [HE.out, stop q, List.append_nil])
    clear stop hg hlt hF2 hF
    obtain ⟨A, cap, rfl⟩ := Kd.R_slice HR.out
    rcases rmore_cases HC.out with ⟨hm, _⟩ | ⟨x, r, rfl, hk, hkr, hr⟩
    · have e1 := Stop.out (fun q => by rw [hm] at q; cases q.1)
      have Hm := Lib.hid hm
      have E1 := Lib.hid e1
      clear hm e1
      go_wp2_with (first | (go_at_call 63; have m := rmore' HC.out; rw [Hm.out] at m; refine m.mono ?_; clear m; rintro e w3 ⟨rfl, rfl⟩))
      go_ret
      rw [E1.out]
      exact ⟨_, rfl, HR.out, HC.out, HK.out⟩
    · obtain ⟨off, capw, c0, c1, _, _, a0, _, a2, _, _, hrl⟩ := hr.consc
      have Hm := Lib.hid (show (rcur (x :: r) 0 0 0).more = true from rfl)
      by_cases h2 : x.kind = 2
      · have hk2 : (x.kind == 2) = true := beq_iff_eq.2 h2
        have hhead : (rcur (x :: r) 0 0 0).headNum = true := by rw [rhead hk, hk2]
        obtain ⟨f, rfl⟩ : ∃ j, f = j + 1 := ⟨f - 1, by
          rcases HF.out.1 with q | q
          · omega
          · cases q⟩
        have HE2 := Lib.hid (show regsR F st = ((xs ++ [((rcur (x :: r) 0 0 0).num 0 64).1]) ++ (regsR f ((rcur (x :: r) 0 0 0).num 0 64).2).1, (regsR f ((rcur (x :: r) 0 0 0).num 0 64).2).2) from by
          rw [HE.out, regsR, if_pos ⟨rfl, hhead⟩]
          simp)
        have HF3 := Lib.hid (show (((rcur (x :: r) 0 0 0).num 0 64).2.items.length < f ∨ ((rcur (x :: r) 0 0 0).num 0 64).2.more = false) ∧ xs.length + 1 + f = F from by
          have h1 := HF.out
          refine ⟨?_, by omega⟩
          rcases num_len (rcur (x :: r) 0 0 0) rfl with q | ⟨_, q⟩
          · exact Or.inr q
          · rcases h1.1 with q2 | q2
            · exact Or.inl (by omega)
            · cases q2)
        rw [h2] at a0
        clear hhead Stop hr hk hkr a2 hrl h2 hk2
        generalize hc : rcur (x :: r) 0 0 0 = c at *
        clear hc
        go_wp2_with (first | (go_at_call 63; have m := rmore' HC.out; rw [Hm.out] at m; refine m.mono ?_; clear m; rintro e w3 ⟨rfl, rfl⟩) | (go_at_call 34; refine (rnum_calls HC.out 0 64).mono ?_; rintro e w5 ⟨rfl, c5, k5⟩; have C5 := Lib.hid c5; have R5 := Lib.hid (HR.out.keeps k5); have K5 := Lib.hid (HK.out.trans k5); clear c5 k5 c0 c1 a0) | ((with_reducible refine gate_builtin (b := .append) (xs := #[.tmp 16, .tmp 19]) rfl ?_); at_builtin; refine Kd.R_append (Kd.int .i64) (w0 := w5) w.heap.size rfl (.tmp 16) (.tmp 19) 23 3 (.int .i64 0) 8 rfl Tryz.underlying23 info_int' rfl (by decide) (by omega) (.slice A xs.length cap) xs (c.num 0 64).1 [.int .i64 (c.num 0 64).1] (fun k => k ≠ b) (fun _ => False) rfl rfl ?aP (fun _ hk => hk.elim) ?aF ?aO ?aB ?aS ?aL ?_; (case aP => exact rfl); (case aB => exact Below.refl _ _); (case aF => exact (fun k hk => by have := K5.out.size; have := Hlt.out; omega)); (case aO => exact R5.out); (case aS => exact K5.out.size); (case aL => have := HF3.out.2; have := HF2.out; omega); intro v2 w2 ho hb hg hat; have R2 := Lib.hid (show IntsR w2 w.heap.size b v2 (xs ++ [(c.num 0 64).1]) from ho); have KB := Lib.hid (keeps_of_below hb); clear ho hb hg hat))
        go_roundw
        case rel =>
          refine ⟨xs ++ [(c.num 0 64).1], f, (c.num 0 64).2, R2, HE2, Lib.hid ⟨HF3.out.1, by rw [List.length_append]; have := HF3.out.2; simp; omega⟩, Lib.hid (C5.out.keeps KB.out (by have := Hlt.out; omega) (by have := Hg.out; omega)), Lib.hid (K5.out.trans' KB.out (fun i hi q => ?_))⟩
          have q2 : w.heap.size ≤ i := q
          omega
        case measure =>
          rw [R2.out.len, List.length_append]
          have := HF3.out.2
          simp [lenOf]
          omega
      · have hk2 : (x.kind == 2) = false := beq_eq_false_iff_ne.2 h2
        have hhead : (rcur (x :: r) 0 0 0).headNum = false := by rw [rhead hk, hk2]
        have e1 := Stop.out (fun q => by rw [hhead] at q; cases q.2)
        have E1 := Lib.hid e1
        clear hhead e1 Stop hr hk hkr a2 hrl h2
        go_wp2_with (first | (go_at_call 63; have m := rmore' HC.out; rw [Hm.out] at m; refine m.mono ?_; clear m; rintro e w3 ⟨rfl, rfl⟩))
        go_ret
        rw [E1.out]
        exact ⟨_, rfl, HR.out, HC.out, HK.out⟩

end
end Go.Proofs.YtfpjdgobannneaaGreatDoor

/-
  The document's Right: what the printed function tells. Plain laws.
-/
namespace Go.Proofs.YtfpjdgobannneaaGreatDoor
open Go Go.RowKit Go.Proofs.YtfpjdgobannneaaGreatDoorW.PrintWords Go.Proofs.YtfpjdgobannneaaGreatDoorW.PrintLast Go.Proofs.YtfpjdgobannneaaGreatDoor.Ref

theorem w64_id {n : Int} (h : -9223372036854775808 ≤ n ∧ n ≤ 9223372036854775807) : wrap64 n = n := by
  unfold wrap64
  omega

theorem rd_at {xs : List Int} {i : Nat} (h : i < xs.length) : rd xs (i : Int) = xs[i] := by
  unfold rd
  rw [Int.toNat_natCast, List.getD_eq_getElem?_getD, List.getElem?_eq_getElem h]
  rfl

theorem has_l0 : ∀ (k : Nat) (xs : List Int) (x : Int) (i : Nat), xs.length ≤ 1000000000 → xs.length - i < k → intarsiaref05_has.l0 k xs x (i : Int) = some (decide (x ∈ xs.drop i))
  | 0, _, _, _, _, h => by omega
  | k + 1, xs, x, i, hl, h => by
    rw [intarsiaref05_has.l0]
    by_cases hi : i < xs.length
    · rw [if_pos (by omega), if_pos (by omega), rd_at hi, List.drop_eq_getElem_cons hi]
      by_cases hx : xs[i] = x
      · rw [if_pos hx]
        congr 1
        exact (decide_eq_true (List.mem_cons.2 (Or.inl hx.symm))).symm
      · rw [if_neg hx, w64_id (by omega), show ((i : Int) + 1) = ((i + 1 : Nat) : Int) from by omega, has_l0 k xs x (i + 1) hl (by omega)]
        have hx2 : x ≠ xs[i] := fun e => hx e.symm
        congr 1
        rw [decide_eq_decide, List.mem_cons]
        exact ⟨Or.inr, fun q => q.resolve_left hx2⟩
    · rw [if_neg (by omega), List.drop_eq_nil_of_le (by omega)]
      simp

theorem has_f (k : Nat) (xs : List Int) (x : Int) (hl : xs.length ≤ 1000000000) (h : xs.length < k) : intarsiaref05_has.f k xs x = some (decide (x ∈ xs)) := by
  have := has_l0 k xs x 0 hl (by omega)
  rw [List.drop_zero] at this
  exact this

/-- the saved ones from i on -/
def SavedOk (regs : Int) (saved : List Int) (i : Nat) : Prop := ∀ (j : Nat) (h : j < saved.length), i ≤ j → 0 ≤ saved[j] ∧ saved[j] < regs ∧ ∀ _h0 : 0 < j, saved[j - 1] < saved[j]

/-- the arguments from i on -/
def ArgsOk (regs : Int) (args : List Int) (i : Nat) : Prop := ∀ (j : Nat) (h : j < args.length), i ≤ j → 0 ≤ args[j] ∧ args[j] < regs ∧ args[j] ∉ args.take j

theorem savedOk_step {regs : Int} {saved : List Int} {i : Nat} (h : i < saved.length) : SavedOk regs saved i ↔ (0 ≤ saved[i] ∧ saved[i] < regs ∧ ∀ _h0 : 0 < i, saved[i - 1] < saved[i]) ∧ SavedOk regs saved (i + 1) := by
  constructor
  · exact fun q => ⟨q i h (Nat.le_refl _), fun j hj hij => q j hj (by omega)⟩
  · rintro ⟨q1, q2⟩ j hj hij
    rcases Nat.eq_or_lt_of_le hij with e | e
    · subst e; exact q1
    · exact q2 j hj e

theorem argsOk_step {regs : Int} {args : List Int} {i : Nat} (h : i < args.length) : ArgsOk regs args i ↔ (0 ≤ args[i] ∧ args[i] < regs ∧ args[i] ∉ args.take i) ∧ ArgsOk regs args (i + 1) := by
  constructor
  · exact fun q => ⟨q i h (Nat.le_refl _), fun j hj hij => q j hj (by omega)⟩
  · rintro ⟨q1, q2⟩ j hj hij
    rcases Nat.eq_or_lt_of_le hij with e | e
    · subst e; exact q1
    · exact q2 j hj e

theorem right_l1 (regs : Int) (args : List Int) (ret : Int) (saved : List Int) (hl : saved.length ≤ 1000000000) : ∀ (k i : Nat), saved.length - i < k →
    ∃ b, intarsiaref05_Right.l1 k (i : Int) regs args ret saved = some b ∧ (b = true ↔ SavedOk regs saved i)
  | 0, _, h => by omega
  | k + 1, i, h => by
    rw [intarsiaref05_Right.l1]
    by_cases hi : i < saved.length
    · rw [if_pos (by omega), if_pos (by omega), rd_at hi, savedOk_step hi]
      by_cases h1 : saved[i] < 0
      · rw [if_pos h1]
        exact ⟨false, rfl, ⟨fun q => (by cases q), fun q => by have := q.1.1; omega⟩⟩
      · rw [if_neg h1]
        by_cases h2 : saved[i] ≥ regs
        · rw [if_pos h2]
          exact ⟨false, rfl, ⟨fun q => (by cases q), fun q => by have := q.1.2.1; omega⟩⟩
        · rw [if_neg h2]
          obtain ⟨b, hb, hbi⟩ := right_l1 regs args ret saved hl k (i + 1) (by omega)
          have hw : wrap64 ((i : Int) + 1) = ((i + 1 : Nat) : Int) := by rw [w64_id (by omega)]; omega
          rw [hw, hb]
          by_cases h3 : (i : Int) > 0
          · obtain ⟨t, rfl⟩ : ∃ t, i = t + 1 := ⟨i - 1, by omega⟩
            have hw2 : wrap64 (((t + 1 : Nat) : Int) - 1) = (t : Int) := by rw [w64_id (by omega)]; omega
            rw [if_pos h3, hw2, if_pos (by omega), if_pos (by omega), rd_at (show t < saved.length by omega)]
            by_cases h4 : saved[t] ≥ saved[t + 1]
            · rw [if_pos h4]
              refine ⟨false, rfl, ⟨fun q => (by cases q), fun q => ?_⟩⟩
              have := q.1.2.2 (by omega)
              simp only [Nat.add_sub_cancel] at this
              omega
            · rw [if_neg h4]
              refine ⟨b, rfl, hbi.trans ⟨fun q => ⟨⟨by omega, by omega, fun _ => ?_⟩, q⟩, fun q => q.2⟩⟩
              simp only [Nat.add_sub_cancel]
              omega
          · rw [if_neg h3]
            exact ⟨b, rfl, hbi.trans ⟨fun q => ⟨⟨by omega, by omega, fun h0 => by omega⟩, q⟩, fun q => q.2⟩⟩
    · rw [if_neg (by omega)]
      exact ⟨true, rfl, ⟨fun _ j hj hij => by omega, fun _ => rfl⟩⟩

theorem right_l0 (regs : Int) (args : List Int) (ret : Int) (saved : List Int) (hl : saved.length ≤ 1000000000) (hla : args.length ≤ 1000000000) : ∀ (k i : Nat), (args.length - i) + args.length + saved.length + 1 < k →
    ∃ b, intarsiaref05_Right.l0 k (i : Int) regs args ret saved = some b ∧ (b = true ↔ ArgsOk regs args i ∧ SavedOk regs saved 0)
  | 0, _, h => by omega
  | k + 1, i, h => by
    rw [intarsiaref05_Right.l0]
    by_cases hi : i < args.length
    · rw [if_pos (by omega), if_pos (by omega), rd_at hi, argsOk_step hi]
      by_cases h1 : args[i] < 0
      · rw [if_pos h1]
        exact ⟨false, rfl, ⟨fun q => (by cases q), fun q => by have := q.1.1.1; omega⟩⟩
      · rw [if_neg h1]
        by_cases h2 : args[i] ≥ regs
        · rw [if_pos h2]
          exact ⟨false, rfl, ⟨fun q => (by cases q), fun q => by have := q.1.1.2.1; omega⟩⟩
        · rw [if_neg h2, if_pos (by omega), Int.toNat_natCast, has_f k (args.take i) args[i] (by rw [List.length_take]; omega) (by rw [List.length_take]; omega)]
          obtain ⟨b, hb, hbi⟩ := right_l0 regs args ret saved hl hla k (i + 1) (by omega)
          have hw : wrap64 ((i : Int) + 1) = ((i + 1 : Nat) : Int) := by rw [w64_id (by omega)]; omega
          rw [hw, hb]
          show ∃ b', (if decide (args[i] ∈ args.take i) = true then some false else some b) = some b' ∧ _
          by_cases h3 : args[i] ∈ args.take i
          · rw [if_pos (by simpa using h3)]
            exact ⟨false, rfl, ⟨fun q => (by cases q), fun q => absurd h3 q.1.1.2.2⟩⟩
          · rw [if_neg (by simpa using h3)]
            exact ⟨b, rfl, hbi.trans ⟨fun q => ⟨⟨⟨by omega, by omega, h3⟩, q.1⟩, q.2⟩, fun q => ⟨q.1.2, q.2⟩⟩⟩
    · rw [if_neg (by omega)]
      obtain ⟨b, hb, hbi⟩ := right_l1 regs args ret saved hl k 0 (by omega)
      exact ⟨b, hb, hbi.trans ⟨fun q => ⟨fun j hj hij => by omega, q⟩, fun q => q.2⟩⟩

theorem nodup_take {l : List Int} : l.Nodup ↔ ∀ (j : Nat) (h : j < l.length), l[j] ∉ l.take j := by
  rw [List.Nodup, List.pairwise_iff_getElem]
  constructor
  · intro h j hj hm
    obtain ⟨i, hi, he⟩ := List.mem_take_iff_getElem.1 hm
    exact h i j (by omega) hj (by omega) he
  · intro h i j hi hj hij he
    exact h j hj (List.mem_take_iff_getElem.2 ⟨i, by omega, he⟩)

theorem sorted_next {l : List Int} : l.Pairwise (· < ·) ↔ ∀ (j : Nat) (h : j < l.length) (_h0 : 0 < j), l[j - 1] < l[j] := by
  rw [List.pairwise_iff_getElem]
  constructor
  · exact fun h j hj h0 => h (j - 1) j (by omega) hj (by omega)
  · intro h i j hi hj hij
    induction j with
    | zero => omega
    | succ j ih =>
      have h1 := h (j + 1) hj (by omega)
      simp only [Nat.add_sub_cancel] at h1
      rcases Nat.eq_or_lt_of_le (show i ≤ j by omega) with e | e
      · subst e; exact h1
      · have := ih (by omega) e
        omega

theorem rightD_iff (m : Mch) : RightD m ↔ (1 ≤ m.regs ∧ m.regs ≤ 64 ∧ m.args.length ≤ 8 ∧ (m.saved.length : Int) ≤ m.regs ∧ 0 ≤ m.ret ∧ m.ret < m.regs ∧ m.ret ∉ m.saved) ∧ ArgsOk m.regs m.args 0 ∧ SavedOk m.regs m.saved 0 := by
  unfold RightD RegsOk ArgsOk SavedOk
  rw [nodup_take, sorted_next]
  constructor
  · rintro ⟨a, b, c, d, e, f, g, ⟨h1, h2⟩, i, j⟩
    exact ⟨⟨a, b, c, d, e, f, g⟩, fun t ht _ => ⟨(h1 _ (List.getElem_mem ht)).1, (h1 _ (List.getElem_mem ht)).2, h2 t ht⟩, fun t ht _ => ⟨(i _ (List.getElem_mem ht)).1, (i _ (List.getElem_mem ht)).2, fun h0 => j t ht h0⟩⟩
  · rintro ⟨⟨a, b, c, d, e, f, g⟩, h, i⟩
    refine ⟨a, b, c, d, e, f, g, ⟨fun x hx => ?_, fun t ht => (h t ht (Nat.zero_le _)).2.2⟩, fun x hx => ?_, fun t ht h0 => (i t ht (Nat.zero_le _)).2.2 h0⟩
    · obtain ⟨t, ht, rfl⟩ := List.mem_iff_getElem.1 hx
      exact ⟨(h t ht (Nat.zero_le _)).1, (h t ht (Nat.zero_le _)).2.1⟩
    · obtain ⟨t, ht, rfl⟩ := List.mem_iff_getElem.1 hx
      exact ⟨(i t ht (Nat.zero_le _)).1, (i t ht (Nat.zero_le _)).2.1⟩

theorem refRight_f (m : Mch) (hla : m.args.length ≤ 1000000000) (hls : m.saved.length ≤ 1000000000) : ∃ k b, intarsiaref05_Right.f k m.regs m.args m.ret m.saved = some b ∧ (b = true ↔ RightD m) := by
  obtain ⟨b, hb, hbi⟩ := right_l0 m.regs m.args m.ret m.saved hls hla (2 * m.args.length + m.saved.length + 2) 0 (by omega)
  have hb' : intarsiaref05_Right.l0 (2 * m.args.length + m.saved.length + 2) 0 m.regs m.args m.ret m.saved = some b := hb
  rw [rightD_iff]
  have no : ∀ (p : Prop), ¬ p → ∃ b', intarsiaref05_Right.j0 (2 * m.args.length + m.saved.length + 2 + 1) true m.regs m.args m.ret m.saved = some b' ∧ (b' = true ↔ p) := fun p hp => ⟨false, rfl, ⟨fun q => (by cases q), fun q => absurd q hp⟩⟩
  refine ⟨2 * m.args.length + m.saved.length + 2 + 1, ?_⟩
  unfold intarsiaref05_Right.f
  by_cases h1 : m.regs < 1
  · rw [if_pos h1]; exact no _ (fun q => by have := q.1.1; omega)
  rw [if_neg h1]
  by_cases h2 : m.regs > 64
  · rw [if_pos h2]; exact no _ (fun q => by have := q.1.2.1; omega)
  rw [if_neg h2]
  by_cases h3 : (m.args.length : Int) > 8
  · rw [if_pos h3]; exact no _ (fun q => by have := q.1.2.2.1; omega)
  rw [if_neg h3]
  by_cases h4 : (m.saved.length : Int) > m.regs
  · rw [if_pos h4]; exact no _ (fun q => by have := q.1.2.2.2.1; omega)
  rw [if_neg h4]
  by_cases h5 : m.ret < 0
  · rw [if_pos h5]; exact no _ (fun q => by have := q.1.2.2.2.2.1; omega)
  rw [if_neg h5]
  by_cases h6 : m.ret ≥ m.regs
  · rw [if_pos h6]; exact no _ (fun q => by have := q.1.2.2.2.2.2.1; omega)
  rw [if_neg h6, has_f _ m.saved m.ret hls (by omega)]
  show ∃ b', intarsiaref05_Right.j0 (2 * m.args.length + m.saved.length + 2 + 1) (decide (m.ret ∈ m.saved)) m.regs m.args m.ret m.saved = some b' ∧ _
  by_cases h7 : m.ret ∈ m.saved
  · rw [decide_eq_true h7]; exact no _ (fun q => q.1.2.2.2.2.2.2 h7)
  · rw [decide_eq_false h7, intarsiaref05_Right.j0, if_neg (by decide), hb']
    exact ⟨b, rfl, hbi.trans ⟨fun q => ⟨⟨by omega, by omega, by omega, by omega, by omega, by omega, h7⟩, q.1, q.2⟩, fun q => ⟨q.2.1, q.2.2⟩⟩⟩

end Go.Proofs.YtfpjdgobannneaaGreatDoor

/-
  The document's Parse of a machine (intarsiaref05.Parse): its contract. (Printed by a small program, gen/genReadC.py.)
-/
namespace Go.Proofs.YtfpjdgobannneaaGreatDoor
open Go Go.RowKit Go.Proofs.YtfpjdgobannneaaGreatDoorW.PrintWords Go.Proofs.YtfpjdgobannneaaGreatDoorW.PrintLast Go.Proofs.YtfpjdgobannneaaGreatDoor.Ref
set_option linter.unusedSimpArgs false

theorem refRight_says (b : Bool) (m : Mch) (hb : b = true ↔ RightD m) (A : Option Addr) (ca : Nat) (S : Option Addr) (cs : Nat) (w : World) (hA : IntsAt w A m.args) (hS : IntsAt w S m.saved) (hla : m.args.length ≤ 1000000000) (hls : m.saved.length ≤ 1000000000) (hca : m.args.length ≤ ca) (hcs : m.saved.length ≤ cs) :
    Calls Tryz.prog 15 #[m.V A ca S cs] w fun e w' => e = .returned (.bool b) ∧ Keeps (fun _ => False) w w' := by
  obtain ⟨k, b', h1, h2⟩ := refRight_f m hla hls
  have e : b' = b := by rw [Bool.eq_iff_iff, h2, hb]
  subst e
  exact (intarsiaref05_Right.calls k m.regs A ca m.args m.ret S cs m.saved b' w (reads_of hA hla) hca (reads_of hS hls) hcs h1).mono fun e w' h => ⟨h.1, Keeps.of_below h.2 _⟩

theorem rerr' {w : World} {b g : Nat} {st : Cur} (h : RCur w b g st) :
    Calls Tryz.prog 36 #[.pointer (some ⟨b, 0, none⟩)] w fun e' w' => e' = .returned (.tuple #[.int .i64 st.err.1, .int .i64 st.err.2.1, .int .i64 st.err.2.2]) ∧ Keeps (fun _ => False) w w' := by
  obtain ⟨ws, e, l, c, rfl, hk, hz, h⟩ := h
  exact rerr_calls h

theorem RCur.low2 {w : World} {b g : Nat} {st : Cur} (h : RCur w b g st) (hb : b ≠ 0) : ∃ g2, RCur w b g2 st ∧ g2 < w.heap.size ∧ (g2 = 0 ∨ g2 = g) := by
  have hlt := h.lt
  obtain ⟨ws, e, l, c, rfl, hk, hz, A, cap, h1, h2, h3, h4, h5⟩ := h
  by_cases hi : ws = []
  · exact ⟨0, ⟨ws, e, l, c, rfl, hk, hz, A, cap, h1, h2, h3, fun hne => absurd hi hne, fun e => hb e.symm⟩, by omega, Or.inl rfl⟩
  · refine ⟨g, ⟨ws, e, l, c, rfl, hk, hz, A, cap, h1, h2, h3, h4, h5⟩, ?_, Or.inr rfl⟩
    obtain ⟨off, hA, hc⟩ := h4 hi
    obtain ⟨x, r, hx⟩ := List.exists_cons_of_ne_nil hi
    obtain ⟨a1, _, _⟩ := hc 0 x (by rw [hx]; rfl)
    rcases Nat.lt_or_ge g w.heap.size with q | q
    · exact q
    · simp [World.cell?, Array.getElem?_eq_none q] at a1

def zeroM : Array Value := #[.int .i64 0, .slice none 0 0, .int .i64 0, .slice none 0 0]

/-- while the document's Parse runs: the result's cells, the machine's cells, the cursor -/
structure RPS (w W : World) (mb b g : Nat) (st : Cur) (a0 a1 a2 a3 : Value) : Prop where
  res : W.heap[w.heap.size]? = some (.cells #[.int .i64 0, .slice none 0 0, .int .i64 0, .slice none 0 0] 25 (0, 0))
  blk : W.heap[mb]? = some (.cells #[a0, a1, a2, a3] 25 (0, 0))
  rc : RCur W b g st
  ks : Keeps (fun _ => False) w W
  gl : g < W.heap.size
  bm : b ≠ mb
  gm : g ≠ mb
  br : b ≠ w.heap.size
  mr : mb ≠ w.heap.size
  bw : w.heap.size ≤ b
  mw : w.heap.size ≤ mb

section
variable {w W W' : World} {mb b g : Nat} {st st' : Cur} {a0 a1 a2 a3 : Value}

theorem RPS.call (h : RPS w W mb b g st a0 a1 a2 a3) (k : RCK W W' b g st') : RPS w W' mb b g st' a0 a1 a2 a3 :=
  ⟨k.2.heap h.res (fun e => h.br e.symm), k.2.heap h.blk (fun e => h.bm e.symm), k.1, h.ks.trans' k.2 (fun i hi e => by have := h.bw; have e2 : i = b := e; omega), by have := h.gl; have := k.2.size; omega, h.bm, h.gm, h.br, h.mr, h.bw, h.mw⟩

theorem RPS.set (h : RPS w W mb b g st a0 a1 a2 a3) (i : Nat) (v : Value) {b0 b1 b2 b3 : Value} (e : (#[a0, a1, a2, a3] : Array Value).setIfInBounds i v = #[b0, b1, b2, b3]) : RPS w (W.setCell ⟨mb, i, none⟩ v) mb b g st b0 b1 b2 b3 :=
  ⟨blk_set_ne h.res (p := ⟨mb, i, none⟩) (fun q => h.mr q.symm) v, by rw [← e]; exact blk_set h.blk i v, h.rc.keeps (keeps1 W mb i v) h.bm h.gm, h.ks.setCell (p := ⟨mb, i, none⟩) (Or.inr h.mw) v, by simp only [World.setCell, Array.size_modify]; exact h.gl, h.bm, h.gm, h.br, h.mr, h.bw, h.mw⟩

/-- a row of numbers that was read, in a block from lo on -/
def IntsB (w : World) (lo b mb : Nat) (v : Value) (xs : List Int) : Prop := (Kd.int .i64).R 3 w lo (fun k => k ≠ b ∧ k ≠ mb) v xs

theorem IntsB.of {base lo : Nat} {v : Value} {xs : List Int} (h : IntsR W base b v xs) (hm : mb < base) (hl : lo ≤ base) : IntsB W lo b mb v xs :=
  Kd.R_lower (Kd.R_mono (Kd.R_bound h) (fun k hk => ⟨hk.1, by have := hk.2.1; omega⟩)) hl

theorem IntsB.keeps {S : Nat → Prop} {lo : Nat} {v : Value} {xs : List Int} (h : IntsB W lo b mb v xs) (k : Keeps S W W') (hs : ∀ i, S i → i = b ∨ i = mb) : IntsB W' lo b mb v xs :=
  Kd.R_step h (fun i ho hlt => k.block i hlt (fun s => by rcases hs i s with e | e; exact ho.1 e; exact ho.2 e))

theorem IntsB.far {S : Nat → Prop} {lo : Nat} {v : Value} {xs : List Int} (h : IntsB W lo b mb v xs) (k : Keeps S W W') (hs : ∀ i, S i → i < lo) : IntsB W' lo b mb v xs :=
  Kd.R_mono (Kd.R_step (Kd.R_bound h) (fun i ho hlt => k.block i hlt (fun s => by have := hs i s; have := ho.2.1; omega))) (fun _ hk => hk.1)

theorem IntsB.cap {lo : Nat} {A : Option Addr} {n c : Nat} {xs : List Int} (h : IntsB W lo b mb (.slice A n c) xs) : n ≤ c := by
  obtain ⟨A', c', e, hc, _⟩ := Kd.R_reads h
  injection e with e1 e2 e3
  omega

theorem regsR_fst : ∀ (g : Nat) (c : Cur), (regsR g c).1.length ≤ g
  | 0, c => by simp [regsR]
  | g + 1, c => by
    rw [regsR]
    split
    · have := regsR_fst g (c.num 0 64).2
      simp only [List.length_cons]
      omega
    · simp

theorem regsR_len : ∀ (g : Nat) (c : Cur), (regsR g c).2.items.length ≤ c.items.length
  | 0, c => Nat.le_refl _
  | g + 1, c => by
    rw [regsR]
    split
    · exact Nat.le_trans (regsR_len g _) (num_le _ _ _)
    · exact Nat.le_refl _

theorem RPS.start {w w1 : World} {b g : Nat} {c : Cur} (h4 : 4 ≤ w.heap.size) (hb : w.heap.size + 1 ≤ b) (hg : g = 0 ∨ w.heap.size + 1 ≤ g) (hc : RCur w1 b g c)
    (hk : Keeps (fun _ => False) (w.alloc (.cells #[.int .i64 0, .slice none 0 0, .int .i64 0, .slice none 0 0] 25)) w1) :
    ∃ g2, RPS w (w1.alloc (.cells #[.int .i64 0, .slice none 0 0, .int .i64 0, .slice none 0 0] 25)) w1.heap.size b g2 c (.int .i64 0) (.slice none 0 0) (.int .i64 0) (.slice none 0 0) := by
  obtain ⟨g2, h1, h2, h3⟩ := hc.low2 (by omega)
  have hs := hk.size
  have hlt := hc.lt
  simp at hs
  exact ⟨g2, blk_alloc (hk.heap (blk_new w _) (fun q => q)) _, blk_new w1 _, h1.keep0 ((Keeps.refl _ _).alloc _), (((Keeps.refl _ w).alloc _).trans hk).alloc _, by simp; omega, by omega, by omega, by omega, by omega, by omega, by omega⟩

/-- whether a machine is right, as the document tells it -/
def DTold (b : Bool) (m : Mch) : Prop := b = true ↔ RightD m

end

section
set_option maxRecDepth 100000
set_option maxHeartbeats 4000000

theorem rparse_calls (s : ByteArray) (w : World) (hshort : s.size ≤ 262144) (h4 : 4 ≤ w.heap.size) :
    Calls Tryz.prog 8 #[.string s] w (ParsePost (parseD ((overCur s).items.length + 1) (overCur s)) w) := by
  have hA0 : Keeps (fun _ => False) w (w.alloc (.cells #[.int .i64 0, .slice none 0 0, .int .i64 0, .slice none 0 0] 25)) := (Keeps.refl _ _).alloc _
  have hle : ((s.size : Int) > 262144) = False := eq_false (by omega)
  have Hlen := Lib.hid (overCur_len s hshort)
  have Hover := Lib.hid (rOver_calls s (w.alloc (.cells #[.int .i64 0, .slice none 0 0, .int .i64 0, .slice none 0 0] 25)) (by omega) (by simp; omega))
  have H4 := Lib.hid h4
  clear h4 hshort hA0
  · go_enter Tryz.func8, Tryz.ntmps8
    go_upto_region 5 with (first | (go_at_call 32; refine Hover.out.mono ?_; rintro e w1 ⟨b, g, rfl, hb, hg, hcs, hk⟩; have HO := Lib.hid (RPS.start H4.out (by simpa using hb) (by rcases hg with q | q; exact Or.inl q; exact Or.inr (by simpa using q)) hcs hk); clear hb hg hcs hk Hover))
    obtain ⟨g2, hp⟩ := HO.out
    have HP0 := Lib.hid hp
    clear hp HO
    generalize w1.heap.size = mb at *
    generalize (w1.alloc (.cells #[.int .i64 0, .slice none 0 0, .int .i64 0, .slice none 0 0] 25)) = W0 at *
    clear w1
    go_upto_region 7 with (first | (go_at_call 33; refine (rkey5_calls HP0.out.rc MM).mono ?_; rintro e Wa ⟨rfl, k2⟩; have HP0a := Lib.hid (HP0.out.call k2);  clear k2 HP0) | (go_at_call 34; refine (rnum_calls HP0a.out.rc 0 64).mono ?_; rintro e Wb ⟨rfl, k3⟩; have HP0b := Lib.hid (HP0a.out.call k3); have c0b := (blk_cell HP0b.out.blk 0).trans rfl; have f0b := blk_free HP0b.out.blk 0;  clear k3 HP0a))
    have HP1 := Lib.hid (HP0b.out.set 0 (.int .i64 (((overCur s).must MM).num 0 64).1) rfl)
    clear HP0b c0b f0b
    generalize Wb.setCell ⟨mb, 0, none⟩ (.int .i64 (((overCur s).must MM).num 0 64).1) = W1 at *
    clear Wa Wb
    go_upto_region 9 with (first | (go_at_call 33; refine (rkey5_calls HP1.out.rc MA).mono ?_; rintro e Wa ⟨rfl, k2⟩; have HP1a := Lib.hid (HP1.out.call k2);  clear k2 HP1) | (go_at_call 35; refine (rnums_calls HP1a.out.rc ((overCur s).items.length + 1) (Nat.lt_succ_of_le (Nat.le_trans (must_len _ _) (Nat.le_trans (num_le _ _ _) (must_len _ _)))) (by have := Hlen.out; omega) HP1a.out.gl).mono ?_; rintro e Wb ⟨v1, rfl, hv, k3⟩; obtain ⟨A1, ca1, rfl⟩ := Kd.R_slice hv; have IQ1b := Lib.hid (IntsB.of (lo := w.heap.size + 1) hv (show mb < Wa.heap.size from lt_of_heap HP1a.out.blk) (by have := lt_of_heap HP1a.out.res; omega)); have HP1b := Lib.hid (HP1a.out.call k3); have c1b := (blk_cell HP1b.out.blk 1).trans rfl; have f1b := blk_free HP1b.out.blk 1;  clear hv k3 HP1a))
    have HP2 := Lib.hid (HP1b.out.set 1 (.slice A1 (regsR ((overCur s).items.length + 1) ((((overCur s).must MM).num 0 64).2.must MA)).1.length ca1) rfl)
    have IQ1 := Lib.hid (IQ1b.out.keeps (keeps1 Wb mb 1 (.slice A1 (regsR ((overCur s).items.length + 1) ((((overCur s).must MM).num 0 64).2.must MA)).1.length ca1)) (fun _ q => Or.inr q))
    clear HP1b c1b f1b IQ1b
    generalize Wb.setCell ⟨mb, 1, none⟩ (.slice A1 (regsR ((overCur s).items.length + 1) ((((overCur s).must MM).num 0 64).2.must MA)).1.length ca1) = W2 at *
    clear Wa Wb
    go_upto_region 11 with (first | (go_at_call 33; refine (rkey5_calls HP2.out.rc MR).mono ?_; rintro e Wa ⟨rfl, k2⟩; have HP2a := Lib.hid (HP2.out.call k2); have IQ1a := Lib.hid (IQ1.out.keeps k2.2 (fun _ q => Or.inl q)); clear IQ1; clear k2 HP2) | (go_at_call 34; refine (rnum_calls HP2a.out.rc 0 64).mono ?_; rintro e Wb ⟨rfl, k3⟩; have HP2b := Lib.hid (HP2a.out.call k3); have c2b := (blk_cell HP2b.out.blk 2).trans rfl; have f2b := blk_free HP2b.out.blk 2; have IQ1b := Lib.hid (IQ1a.out.keeps k3.2 (fun _ q => Or.inl q)); clear IQ1a; clear k3 HP2a))
    have HP3 := Lib.hid (HP2b.out.set 2 (.int .i64 ((((regsR ((overCur s).items.length + 1) ((((overCur s).must MM).num 0 64).2.must MA)).2).must MR).num 0 64).1) rfl)
    have IQ1 := Lib.hid (IQ1b.out.keeps (keeps1 Wb mb 2 (.int .i64 ((((regsR ((overCur s).items.length + 1) ((((overCur s).must MM).num 0 64).2.must MA)).2).must MR).num 0 64).1)) (fun _ q => Or.inr q))
    clear HP2b c2b f2b IQ1b
    generalize Wb.setCell ⟨mb, 2, none⟩ (.int .i64 ((((regsR ((overCur s).items.length + 1) ((((overCur s).must MM).num 0 64).2.must MA)).2).must MR).num 0 64).1) = W3 at *
    clear Wa Wb
    go_upto_region 13 with (first | (go_at_call 33; refine (rkey5_calls HP3.out.rc MS).mono ?_; rintro e Wa ⟨rfl, k2⟩; have HP3a := Lib.hid (HP3.out.call k2); have IQ1a := Lib.hid (IQ1.out.keeps k2.2 (fun _ q => Or.inl q)); clear IQ1; clear k2 HP3) | (go_at_call 35; refine (rnums_calls HP3a.out.rc ((overCur s).items.length + 1) (Nat.lt_succ_of_le (Nat.le_trans (must_len _ _) (Nat.le_trans (num_le _ _ _) (Nat.le_trans (must_len _ _) (Nat.le_trans (regsR_len _ _) (Nat.le_trans (must_len _ _) (Nat.le_trans (num_le _ _ _) (must_len _ _)))))))) (by have := Hlen.out; omega) HP3a.out.gl).mono ?_; rintro e Wb ⟨v3, rfl, hv, k3⟩; obtain ⟨A3, ca3, rfl⟩ := Kd.R_slice hv; have IQ3b := Lib.hid (IntsB.of (lo := w.heap.size + 1) hv (show mb < Wa.heap.size from lt_of_heap HP3a.out.blk) (by have := lt_of_heap HP3a.out.res; omega)); have HP3b := Lib.hid (HP3a.out.call k3); have c3b := (blk_cell HP3b.out.blk 3).trans rfl; have f3b := blk_free HP3b.out.blk 3; have IQ1b := Lib.hid (IQ1a.out.keeps k3.2 (fun _ q => Or.inl q)); clear IQ1a; clear hv k3 HP3a))
    have HP4 := Lib.hid (HP3b.out.set 3 (.slice A3 (regsR ((overCur s).items.length + 1) (((((regsR ((overCur s).items.length + 1) ((((overCur s).must MM).num 0 64).2.must MA)).2).must MR).num 0 64).2.must MS)).1.length ca3) rfl)
    have IQ1 := Lib.hid (IQ1b.out.keeps (keeps1 Wb mb 3 (.slice A3 (regsR ((overCur s).items.length + 1) (((((regsR ((overCur s).items.length + 1) ((((overCur s).must MM).num 0 64).2.must MA)).2).must MR).num 0 64).2.must MS)).1.length ca3)) (fun _ q => Or.inr q))
    have IQ3 := Lib.hid (IQ3b.out.keeps (keeps1 Wb mb 3 (.slice A3 (regsR ((overCur s).items.length + 1) (((((regsR ((overCur s).items.length + 1) ((((overCur s).must MM).num 0 64).2.must MA)).2).must MR).num 0 64).2.must MS)).1.length ca3)) (fun _ q => Or.inr q))
    clear HP3b c3b f3b IQ1b IQ3b
    generalize Wb.setCell ⟨mb, 3, none⟩ (.slice A3 (regsR ((overCur s).items.length + 1) (((((regsR ((overCur s).items.length + 1) ((((overCur s).must MM).num 0 64).2.must MA)).2).must MR).num 0 64).2.must MS)).1.length ca3) = W4 at *
    clear Wa Wb
    have Hl1 := Lib.hid (show (regsR ((overCur s).items.length + 1) ((((overCur s).must MM).num 0 64).2.must MA)).1.length ≤ 600001 from Nat.le_trans (regsR_fst _ _) (by have := Hlen.out; omega))
    have Hl3 := Lib.hid (show (regsR ((overCur s).items.length + 1) (((((regsR ((overCur s).items.length + 1) ((((overCur s).must MM).num 0 64).2.must MA)).2).must MR).num 0 64).2.must MS)).1.length ≤ 600001 from Nat.le_trans (regsR_fst _ _) (by have := Hlen.out; omega))
    have Hby := Lib.hid (show parseBy (regsR ((overCur s).items.length + 1)) (overCur s) = (⟨(((overCur s).must MM).num 0 64).1, (regsR ((overCur s).items.length + 1) ((((overCur s).must MM).num 0 64).2.must MA)).1, ((((regsR ((overCur s).items.length + 1) ((((overCur s).must MM).num 0 64).2.must MA)).2).must MR).num 0 64).1, (regsR ((overCur s).items.length + 1) (((((regsR ((overCur s).items.length + 1) ((((overCur s).must MM).num 0 64).2.must MA)).2).must MR).num 0 64).2.must MS)).1⟩, (regsR ((overCur s).items.length + 1) (((((regsR ((overCur s).items.length + 1) ((((overCur s).must MM).num 0 64).2.must MA)).2).must MR).num 0 64).2.must MS)).2) from rfl)
    generalize (regsR ((overCur s).items.length + 1) (((((regsR ((overCur s).items.length + 1) ((((overCur s).must MM).num 0 64).2.must MA)).2).must MR).num 0 64).2.must MS)).1 = l3 at *
    generalize (regsR ((overCur s).items.length + 1) (((((regsR ((overCur s).items.length + 1) ((((overCur s).must MM).num 0 64).2.must MA)).2).must MR).num 0 64).2.must MS)).2 = c4 at *
    generalize ((((regsR ((overCur s).items.length + 1) ((((overCur s).must MM).num 0 64).2.must MA)).2).must MR).num 0 64).1 = n2 at *
    generalize (regsR ((overCur s).items.length + 1) ((((overCur s).must MM).num 0 64).2.must MA)).1 = l1 at *
    generalize (((overCur s).must MM).num 0 64).1 = n1 at *
    have Hpc := Lib.hid (show parseD ((overCur s).items.length + 1) (overCur s) = if c4.err.2.2 ≠ 0 then (Mch.zero, c4.err.2.2) else if RightD ⟨n1, l1, n2, l3⟩ then (⟨n1, l1, n2, l3⟩, 0) else (Mch.zero, 2) from by unfold parseD; rw [Hby.out])
    clear Hby Hlen
    generalize he3 : c4.err.2.2 = e3 at *
    have He3 := Lib.hid he3
    clear he3
    by_cases hz : e3 = 0
    · subst hz
      by_cases hr : RightD ⟨n1, l1, n2, l3⟩
      · have hres := Hpc.out
        rw [if_neg (by simp), if_pos hr] at hres
        have Hres := Lib.hid hres
        have Hr := Lib.hid (show DTold true ⟨n1, l1, n2, l3⟩ from ⟨fun _ => hr, fun _ => rfl⟩)
        clear hr hres Hpc
        go_wp2_with (first | (go_at_call 36; have m5 := rerr' HP4.out.rc; rw [He3.out] at m5; refine m5.mono ?_; clear m5; rintro e Wa ⟨rfl, k5⟩; have HB5 := Lib.hid (k5.heap HP4.out.blk (fun q => q)); have HZ5 := Lib.hid (k5.heap HP4.out.res (fun q => q)); have HK5 := Lib.hid (HP4.out.ks.trans k5); have IQ1a := Lib.hid (IQ1.out.keeps k5 (fun _ q => q.elim)); have IQ3a := Lib.hid (IQ3.out.keeps k5 (fun _ q => q.elim)); have c0 := (blk_cell HB5.out 0).trans rfl; have c1 := (blk_cell HB5.out 1).trans rfl; have c2 := (blk_cell HB5.out 2).trans rfl; have c3 := (blk_cell HB5.out 3).trans rfl; have z0 := (blk_cell HZ5.out 0).trans rfl; have y0 := blk_free HZ5.out 0; have z1 := (blk_cell HZ5.out 1).trans rfl; have y1 := blk_free HZ5.out 1; have z2 := (blk_cell HZ5.out 2).trans rfl; have y2 := blk_free HZ5.out 2; have z3 := (blk_cell HZ5.out 3).trans rfl; have y3 := blk_free HZ5.out 3; have Hne := Lib.hid (And.intro HP4.out.mr HP4.out.br); clear k5 HP4 IQ1 IQ3) | (go_at_call 15; have m6 := refRight_says true ⟨n1, l1, n2, l3⟩ Hr.out A1 ca1 A3 ca3 _ (intsAt_of_R IQ1a.out) (intsAt_of_R IQ3a.out) (by have := Hl1.out; simp only; omega) (by have := Hl3.out; simp only; omega) IQ1a.out.cap IQ3a.out.cap; simp only [Mch.V] at m6; refine m6.mono ?_; clear m6; rintro e Wb ⟨rfl, k6⟩; have HB6 := Lib.hid (k6.heap HB5.out (fun q => q)); have HZ6 := Lib.hid (k6.heap HZ5.out (fun q => q)); have HK6 := Lib.hid (HK5.out.trans k6); have IQ1b := Lib.hid (IQ1a.out.keeps k6 (fun _ q => q.elim)); have IQ3b := Lib.hid (IQ3a.out.keeps k6 (fun _ q => q.elim)); clear c0 c1 c2 c3 z0 z1 z2 z3 y0 y1 y2 y3; have c0 := (blk_cell HB6.out 0).trans rfl; have c1 := (blk_cell HB6.out 1).trans rfl; have c2 := (blk_cell HB6.out 2).trans rfl; have c3 := (blk_cell HB6.out 3).trans rfl; have z0 := (blk_cell HZ6.out 0).trans rfl; have y0 := blk_free HZ6.out 0; have z1 := (blk_cell HZ6.out 1).trans rfl; have y1 := blk_free HZ6.out 1; have z2 := (blk_cell HZ6.out 2).trans rfl; have y2 := blk_free HZ6.out 2; have z3 := (blk_cell HZ6.out 3).trans rfl; have y3 := blk_free HZ6.out 3; clear k6 HB5 HZ5 HK5 IQ1a IQ3a))
        have hbf : ((((Wb.setCell ⟨w.heap.size, 0, none⟩ (.int .i64 n1)).setCell ⟨w.heap.size, 1, none⟩ (.slice A1 l1.length ca1)).setCell ⟨w.heap.size, 2, none⟩ (.int .i64 n2)).setCell ⟨w.heap.size, 3, none⟩ (.slice A3 l3.length ca3)).heap[w.heap.size]? = some (.cells #[.int .i64 n1, .slice A1 l1.length ca1, .int .i64 n2, .slice A3 l3.length ca3] 25 (0, 0)) := blk_set (blk_set (blk_set (blk_set HZ6.out 0 _) 1 _) 2 _) 3 _
        have kk : Keeps (fun k => k = w.heap.size) Wb ((((Wb.setCell ⟨w.heap.size, 0, none⟩ (.int .i64 n1)).setCell ⟨w.heap.size, 1, none⟩ (.slice A1 l1.length ca1)).setCell ⟨w.heap.size, 2, none⟩ (.int .i64 n2)).setCell ⟨w.heap.size, 3, none⟩ (.slice A3 l3.length ca3)) := ((((Keeps.refl (fun k => k = w.heap.size) Wb).set1 0 _).set1 1 _).set1 2 _).set1 3 _
        have q1 := intsAt_of_R (IQ1b.out.far kk (fun i e => by have e2 : i = w.heap.size := e; omega))
        have q3 := intsAt_of_R (IQ3b.out.far kk (fun i e => by have e2 : i = w.heap.size := e; omega))
        refine bodyPost_ret (v := .tuple #[.agg #[.int .i64 n1, .slice A1 l1.length ca1, .int .i64 n2, .slice A3 l3.length ca3], .int .i64 0]) ?_ rfl (by rw [Hres.out]; exact ⟨A1, ca1, A3, ca3, rfl, q1, q3, HK6.out.trans' kk (fun i hi e => by have e2 : i = w.heap.size := e; omega)⟩)
        rw [results_cell_tmp rfl]
        simp [asAddr, Result.andThen, run_loadMach _ _ _ hbf rfl]
      · have hres := Hpc.out
        rw [if_neg (by simp), if_neg hr] at hres
        have Hres := Lib.hid hres
        have Hr := Lib.hid (show DTold false ⟨n1, l1, n2, l3⟩ from ⟨fun h => (by cases h), fun h => absurd h hr⟩)
        clear hr hres Hpc
        go_wp2_with (first | (go_at_call 36; have m5 := rerr' HP4.out.rc; rw [He3.out] at m5; refine m5.mono ?_; clear m5; rintro e Wa ⟨rfl, k5⟩; have HB5 := Lib.hid (k5.heap HP4.out.blk (fun q => q)); have HZ5 := Lib.hid (k5.heap HP4.out.res (fun q => q)); have HK5 := Lib.hid (HP4.out.ks.trans k5); have IQ1a := Lib.hid (IQ1.out.keeps k5 (fun _ q => q.elim)); have IQ3a := Lib.hid (IQ3.out.keeps k5 (fun _ q => q.elim)); have c0 := (blk_cell HB5.out 0).trans rfl; have c1 := (blk_cell HB5.out 1).trans rfl; have c2 := (blk_cell HB5.out 2).trans rfl; have c3 := (blk_cell HB5.out 3).trans rfl; have z0 := (blk_cell HZ5.out 0).trans rfl; have y0 := blk_free HZ5.out 0; have z1 := (blk_cell HZ5.out 1).trans rfl; have y1 := blk_free HZ5.out 1; have z2 := (blk_cell HZ5.out 2).trans rfl; have y2 := blk_free HZ5.out 2; have z3 := (blk_cell HZ5.out 3).trans rfl; have y3 := blk_free HZ5.out 3; have Hne := Lib.hid (And.intro HP4.out.mr HP4.out.br); clear k5 HP4 IQ1 IQ3) | (go_at_call 15; have m6 := refRight_says false ⟨n1, l1, n2, l3⟩ Hr.out A1 ca1 A3 ca3 _ (intsAt_of_R IQ1a.out) (intsAt_of_R IQ3a.out) (by have := Hl1.out; simp only; omega) (by have := Hl3.out; simp only; omega) IQ1a.out.cap IQ3a.out.cap; simp only [Mch.V] at m6; refine m6.mono ?_; clear m6; rintro e Wb ⟨rfl, k6⟩; have HB6 := Lib.hid (k6.heap HB5.out (fun q => q)); have HZ6 := Lib.hid (k6.heap HZ5.out (fun q => q)); have HK6 := Lib.hid (HK5.out.trans k6); have IQ1b := Lib.hid (IQ1a.out.keeps k6 (fun _ q => q.elim)); have IQ3b := Lib.hid (IQ3a.out.keeps k6 (fun _ q => q.elim)); clear c0 c1 c2 c3 z0 z1 z2 z3 y0 y1 y2 y3; have c0 := (blk_cell HB6.out 0).trans rfl; have c1 := (blk_cell HB6.out 1).trans rfl; have c2 := (blk_cell HB6.out 2).trans rfl; have c3 := (blk_cell HB6.out 3).trans rfl; have z0 := (blk_cell HZ6.out 0).trans rfl; have y0 := blk_free HZ6.out 0; have z1 := (blk_cell HZ6.out 1).trans rfl; have y1 := blk_free HZ6.out 1; have z2 := (blk_cell HZ6.out 2).trans rfl; have y2 := blk_free HZ6.out 2; have z3 := (blk_cell HZ6.out 3).trans rfl; have y3 := blk_free HZ6.out 3; clear k6 HB5 HZ5 HK5 IQ1a IQ3a))
        have hbf : ((((Wb.setCell ⟨w.heap.size, 0, none⟩ (.int .i64 0)).setCell ⟨w.heap.size, 1, none⟩ (.slice none 0 0)).setCell ⟨w.heap.size, 2, none⟩ (.int .i64 0)).setCell ⟨w.heap.size, 3, none⟩ (.slice none 0 0)).heap[w.heap.size]? = some (.cells #[.int .i64 0, .slice none 0 0, .int .i64 0, .slice none 0 0] 25 (0, 0)) := blk_set (blk_set (blk_set (blk_set HZ6.out 0 _) 1 _) 2 _) 3 _
        refine bodyPost_ret (v := .tuple #[.agg #[.int .i64 0, .slice none 0 0, .int .i64 0, .slice none 0 0], .int .i64 2]) ?_ rfl (by rw [Hres.out]; exact ⟨none, 0, none, 0, rfl, fun h => absurd rfl h, fun h => absurd rfl h, (((HK6.out.setCell (p := ⟨w.heap.size, 0, none⟩) (Or.inr (Nat.le_refl _)) _).setCell (p := ⟨w.heap.size, 1, none⟩) (Or.inr (Nat.le_refl _)) _).setCell (p := ⟨w.heap.size, 2, none⟩) (Or.inr (Nat.le_refl _)) _).setCell (p := ⟨w.heap.size, 3, none⟩) (Or.inr (Nat.le_refl _)) _⟩)
        rw [results_cell_tmp rfl]
        simp [asAddr, Result.andThen, run_loadMach _ _ _ hbf rfl]
    · have hres := Hpc.out
      rw [if_pos hz] at hres
      have Hres := Lib.hid hres
      have hzb : (e3 == 0) = false := beq_eq_false_iff_ne.2 hz
      clear hz hres Hpc
      go_wp2_with (first | (go_at_call 36; have m5 := rerr' HP4.out.rc; rw [He3.out] at m5; refine m5.mono ?_; clear m5; rintro e Wa ⟨rfl, k5⟩; have HB5 := Lib.hid (k5.heap HP4.out.blk (fun q => q)); have HZ5 := Lib.hid (k5.heap HP4.out.res (fun q => q)); have HK5 := Lib.hid (HP4.out.ks.trans k5); have IQ1a := Lib.hid (IQ1.out.keeps k5 (fun _ q => q.elim)); have IQ3a := Lib.hid (IQ3.out.keeps k5 (fun _ q => q.elim)); have c0 := (blk_cell HB5.out 0).trans rfl; have c1 := (blk_cell HB5.out 1).trans rfl; have c2 := (blk_cell HB5.out 2).trans rfl; have c3 := (blk_cell HB5.out 3).trans rfl; have z0 := (blk_cell HZ5.out 0).trans rfl; have y0 := blk_free HZ5.out 0; have z1 := (blk_cell HZ5.out 1).trans rfl; have y1 := blk_free HZ5.out 1; have z2 := (blk_cell HZ5.out 2).trans rfl; have y2 := blk_free HZ5.out 2; have z3 := (blk_cell HZ5.out 3).trans rfl; have y3 := blk_free HZ5.out 3; have Hne := Lib.hid (And.intro HP4.out.mr HP4.out.br); clear k5 HP4 IQ1 IQ3))
      have hbf : ((((Wa.setCell ⟨w.heap.size, 0, none⟩ (.int .i64 0)).setCell ⟨w.heap.size, 1, none⟩ (.slice none 0 0)).setCell ⟨w.heap.size, 2, none⟩ (.int .i64 0)).setCell ⟨w.heap.size, 3, none⟩ (.slice none 0 0)).heap[w.heap.size]? = some (.cells #[.int .i64 0, .slice none 0 0, .int .i64 0, .slice none 0 0] 25 (0, 0)) := blk_set (blk_set (blk_set (blk_set HZ5.out 0 _) 1 _) 2 _) 3 _
      refine bodyPost_ret (v := .tuple #[.agg #[.int .i64 0, .slice none 0 0, .int .i64 0, .slice none 0 0], .int .i64 e3]) ?_ rfl (by rw [Hres.out]; exact ⟨none, 0, none, 0, rfl, fun h => absurd rfl h, fun h => absurd rfl h, (((HK5.out.setCell (p := ⟨w.heap.size, 0, none⟩) (Or.inr (Nat.le_refl _)) _).setCell (p := ⟨w.heap.size, 1, none⟩) (Or.inr (Nat.le_refl _)) _).setCell (p := ⟨w.heap.size, 2, none⟩) (Or.inr (Nat.le_refl _)) _).setCell (p := ⟨w.heap.size, 3, none⟩) (Or.inr (Nat.le_refl _)) _⟩)
      rw [results_cell_tmp rfl]
      simp [asAddr, Result.andThen, run_loadMach _ _ _ hbf rfl]

end
end Go.Proofs.YtfpjdgobannneaaGreatDoor

/-
  MachReads: the walk.
-/
namespace Go.Proofs.YtfpjdgobannneaaGreatDoor
open Go Go.RowKit Go.Proofs.YtfpjdgobannneaaGreatDoorW.PrintWords Go.Proofs.YtfpjdgobannneaaGreatDoorW.PrintLast
set_option linter.unusedSimpArgs false

theorem parseC_len (f : Nat) (c : Cur) : (parseC f c).1.args.length ≤ f ∧ (parseC f c).1.saved.length ≤ f := by
  have h1 : (parseBy (regsP f) c).1.args.length ≤ f := regsP_fst f _
  have h2 : (parseBy (regsP f) c).1.saved.length ≤ f := regsP_fst f _
  unfold parseC
  split
  · exact ⟨Nat.zero_le _, Nat.zero_le _⟩
  · split
    · exact ⟨h1, h2⟩
    · exact ⟨Nat.zero_le _, Nat.zero_le _⟩

theorem parseM_len (s : ByteArray) : (parseM s).1.args.length ≤ 600001 ∧ (parseM s).1.saved.length ≤ 600001 := by
  unfold parseM
  split
  · exact ⟨Nat.zero_le _, Nat.zero_le _⟩
  · have h := parseC_len ((overCur s).items.length + 1) (overCur s)
    have h2 := overCur_len s (by omega)
    omega

/-- what Parse tells, written out -/
def PPost (regs : Int) (args : List Int) (ret : Int) (saved : List Int) (er : Int) (w : World) (e : Ending) (w' : World) : Prop :=
  ∃ A ca S cs, e = .returned (.tuple #[.agg #[.int .i64 regs, .slice A args.length ca, .int .i64 ret, .slice S saved.length cs], .int .i64 er]) ∧ IntsAt w' A args ∧ IntsAt w' S saved ∧ Keeps (fun _ => False) w w'

/-- both machines of the text, in blocks of their own -/
structure BothAt (w W : World) (b1 b2 : Nat) (m : Mch) (A : Option Addr) (ca : Nat) (S : Option Addr) (cs : Nat) (B : Option Addr) (cb : Nat) (T : Option Addr) (ct : Nat) : Prop where
  one : MachAt W b1 m A ca S cs
  two : MachAt W b2 m B cb T ct
  ks : Keeps (fun _ => False) w W

theorem BothAt.keep {w W W' : World} {b1 b2 : Nat} {m : Mch} {A : Option Addr} {ca : Nat} {S : Option Addr} {cs : Nat} {B : Option Addr} {cb : Nat} {T : Option Addr} {ct : Nat} (h : BothAt w W b1 b2 m A ca S cs B cb T ct) (k : Keeps (fun _ => False) W W') : BothAt w W' b1 b2 m A ca S cs B cb T ct :=
  ⟨h.one.keep0 k, h.two.keep0 k, h.ks.trans k⟩

section
set_option maxRecDepth 100000
set_option maxHeartbeats 4000000

theorem reads_calls (s : ByteArray) (w : World) (hG : Glob w) (h4 : 4 ≤ w.heap.size) :
    Calls Tryz.prog 3 #[.string s] w fun e w' => e = .returned (.bool true) ∧ Keeps (fun _ => False) w w' := by
  by_cases hlong : 2000 < s.size
  · have hle : ((s.size : Int) > 2000) = True := eq_true (by omega)
    have Haw := Lib.hid (mawake_calls w hG h4)
    clear hG h4 hlong
    go_enter Tryz.func3, Tryz.ntmps3
    go_wp2_with (first | (go_at_call 6; refine Haw.out.mono ?_; rintro e w1 ⟨rfl, k⟩; have HK := Lib.hid k; clear k))
    go_ret
    exact ⟨rfl, HK.out⟩
  · have hle : ((s.size : Int) > 2000) = False := eq_false (by omega)
    have hp := parse_calls s w (by omega) hG h4
    have hr : ∀ W, Keeps (fun _ => False) w W → Calls Tryz.prog 8 #[.string s] W (ParsePost (parseM s) W) := fun W k => by
      have := rparse_calls s W (by omega) (by have := k.size; omega)
      rw [parse_same]
      unfold parseDM
      rw [if_neg (by omega)]
      exact this
    have haw : ∀ W, Keeps (fun _ => False) w W → Calls Tryz.prog 6 #[] W fun e w' => e = .returned (.bool true) ∧ Keeps (fun _ => False) W w' := fun W k => mawake_calls W (hG.keeps k (by simp)) (by have := k.size; omega)
    have hl := parseM_len s
    generalize parseM s = r at hp hr hl
    obtain ⟨⟨regs, args, ret, saved⟩, er⟩ := r
    have Hp := Lib.hid (show Calls Tryz.prog 7 #[.string s] w (PPost regs args ret saved er w) from hp)
    have Hr := Lib.hid (show ∀ W, Keeps (fun _ => False) w W → Calls Tryz.prog 8 #[.string s] W (PPost regs args ret saved er W) from hr)
    have Haw := Lib.hid haw
    have Hl1 := Lib.hid (show args.length ≤ 1000000000 from by have := hl.1; simp only at this; omega)
    have Hl2 := Lib.hid (show saved.length ≤ 1000000000 from by have := hl.2; simp only at this; omega)
    have Hsm := Lib.hid (show ∀ (A : Option Addr) (ca : Nat) (S : Option Addr) (cs : Nat) (B : Option Addr) (cb : Nat) (T : Option Addr) (ct : Nat) (W : World), IntsAt W A args → IntsAt W S saved → IntsAt W B args → IntsAt W T saved → Calls Tryz.prog 9 #[.agg #[.int .i64 regs, .slice A args.length ca, .int .i64 ret, .slice S saved.length cs], .agg #[.int .i64 regs, .slice B args.length cb, .int .i64 ret, .slice T saved.length ct]] W fun e w' => e = .returned (.bool true) ∧ Keeps (fun _ => False) W w' from
      fun A ca S cs B cb T ct W hA hS hB hT => same_says true ⟨regs, args, ret, saved⟩ ⟨regs, args, ret, saved⟩ ⟨fun _ => rfl, fun _ => rfl⟩ A ca S cs B cb T ct W hA hS hB hT Hl1.out Hl2.out Hl1.out Hl2.out)
    clear hp hr haw hl hG h4 hlong
    go_enter Tryz.func3, Tryz.ntmps3
    go_upto_region 5 with (first | (go_at_call 7; refine Hp.out.mono ?_; rintro e w1 ⟨A, ca, S, cs, rfl, hA, hS, k⟩; have HM := Lib.hid (MachAt.new (m := ⟨regs, args, ret, saved⟩) ca cs hA hS); have HK := Lib.hid (k.alloc (.cells #[.int .i64 regs, .slice A args.length ca, .int .i64 ret, .slice S saved.length cs] 25)); clear hA hS k Hp) | (go_at_call 8; refine (Hr.out _ HK.out).mono ?_; rintro e w2 ⟨B, cb, T, ct, rfl, hB, hT, k⟩; have HB := Lib.hid (BothAt.mk ((HM.out.keep0 k).keep0 ((Keeps.refl _ w2).alloc (.cells #[.int .i64 regs, .slice B args.length cb, .int .i64 ret, .slice T saved.length ct] 25))) (MachAt.new (m := ⟨regs, args, ret, saved⟩) cb ct hB hT) ((HK.out.trans k).alloc (.cells #[.int .i64 regs, .slice B args.length cb, .int .i64 ret, .slice T saved.length ct] 25))); clear hB hT k HM HK Hr))
    have c0 := HB.out.one.c0
    have c1 := HB.out.one.c1
    have c2 := HB.out.one.c2
    have c3 := HB.out.one.c3
    have d0 := HB.out.two.c0
    have d1 := HB.out.two.c1
    have d2 := HB.out.two.c2
    have d3 := HB.out.two.c3
    simp only at c0 c1 c2 c3 d0 d1 d2 d3
    generalize w1.heap.size = b1 at *
    generalize w2.heap.size = b2 at *
    generalize (w2.alloc (.cells #[.int .i64 regs, .slice B args.length cb, .int .i64 ret, .slice T saved.length ct] 25)) = W at *
    go_wp2_with (first | (go_at_call 9; refine (Hsm.out A ca S cs B cb T ct _ HB.out.one.args HB.out.one.saved HB.out.two.args HB.out.two.saved).mono ?_; rintro e w3 ⟨rfl, k⟩; have HK3 := Lib.hid (HB.out.ks.trans k); clear k c0 c1 c2 c3 d0 d1 d2 d3) | (go_at_call 6; refine (Haw.out _ HK3.out).mono ?_; rintro e w4 ⟨rfl, k⟩; have HK4 := Lib.hid (HK3.out.trans k); clear k))
    go_ret
    exact ⟨rfl, HK4.out⟩

end
end Go.Proofs.YtfpjdgobannneaaGreatDoor

/-
  MachReads: the row and the tied card, proved: the law returns true at every input; the input reads as it did.
-/
namespace Go.Proofs.YtfpjdgobannneaaGreatDoor
open Go Go.RowKit Go.ChangeShapes Go.WideShapes Go.ChangeAt
open Go.ChangeMaps (open_string shut_string)

set_option maxRecDepth 100000 in
theorem machReads_lifted (os : Os) (started : os.Started) (H : Type) (enc : TypeId × Value → H) :
    ReturnsInHanded {} Tryz.checked os 3 .any (fun w args => (Rows.machReadsSpec.pre enc Tryz.prog Tryz.f3 [] false w args ∧ laidMetH Tryz.prog laidL w) ∧ sizedMet enc Tryz.prog Tryz.f3 (OpenSpec.ofChange Rows.machReadsSpec) false w args)
      (Rows.machReadsSpec.post enc Tryz.prog Tryz.f3 false true false false) := by
  refine returnsInHanded_of_change_and (C := Tryz.checked) (X := fun w _ => laidMetH Tryz.prog laidL w) (fun _ _ _ hh h => h.of_heap hh) own started (by kernel_rfl) Tryz.func3
    (ChangeSpec.witness_shaped (enc := enc) (C := Tryz.checked) (os := os) (X := fun w _ => laidMetH Tryz.prog laidL w) false (World.doorLaid Tryz.prog 400 os) #[.string ByteArray.empty] 8 rfl (World.shaped_of_RefB (by kernel_rfl) (by kernel_rfl)) (by kernel_rfl) (by kernel_rfl) (by kernel_rfl) (door_met os _)) ?_
  intro W base args ds gs before hval0 hW _ _ hL _
  have hval : ∀ (j : Nat) t v, Tryz.f3.params[j]? = some t → args[j]? = some v → Value.okWide Tryz.prog W .any base t v := hval0
  have hW' := hW
  obtain ⟨p, q, hA0, hV, rfl, hfz, hnd⟩ := hW
  have hA : DataW.TrodAll enc Tryz.prog W 0 (fun _ => true) true Tryz.f3.params.toList args.toList ds p := hA0
  rw [Tryz.params3] at hA hval
  obtain ⟨v0, d0, rfl, rfl, h0⟩ := trodAll_one hA
  obtain ⟨rfl, rfl⟩ := trodVars_none hV
  obtain ⟨a, rfl, rfl, rfl, wa⟩ := open_string Tryz.underlying9 (hval 0 9 v0 rfl rfl) h0
  obtain ⟨hG, h4⟩ := glob_of_laid hL
  clear hA0 hval0
  refine (reads_calls a W hG h4).mono fun e W' ⟨he, hk⟩ => ?_
  subst he
  exact ⟨_, rfl, _, _, _, [], _, [], hW', trodAll_mk1 (shut_bool Tryz.underlying4 _), trodAll_mk1 (shut_string Tryz.underlying9 wa), rfl, (hk.below (Nat.le_refl _) (by simp)).frame _, fun h => by cases h⟩

theorem machReads_holds : Rows.MachReadsSaid :=
  OpenClaim.holds_of_wide 3 Tryz.f3 rfl rfl rfl rfl rfl rfl rfl ⟨rfl, rfl, rfl, rfl, rfl⟩ rfl rfl rfl rfl rfl (by kernel_rfl) Tryz.func3 (by kernel_rfl)
    (of_decide_eq_true (by kernel_rfl)) (by unfold Func.isWrapper; first | (rw [if_pos (by decide +kernel)]; kernel_rfl) | (rw [if_neg (by decide +kernel)]; exact ⟨rfl, rfl⟩))
    (fun os started H enc _ => machReads_lifted os started H enc)

theorem machReads_card : Rows.MachReadsCardSaid :=
  Claim7.holds_tied_plain_at .later [] [.data, .data, .data, .sentinel, .sentinel] true (true, "240ded0305af3e760b324d977b596bb5506e8c8efa5acd5553ac54276682d094") true
    machReads_holds (fun _ h => by cases h) (by kernel_rfl) (fun _ h => by cases h) machReads_row_tie rfl ⟨rfl, rfl⟩ (by kernel_rfl) rfl
    (fun f fn hf hfn => by
      obtain rfl : f = 3 := Option.some.inj ((show Tryz.prog.funcNamed "intarsia/intarsialaw05.MachReads" = some 3 by kernel_rfl).symm.trans hf) |>.symm
      obtain rfl : fn = Tryz.f3 := (Option.some.inj (Tryz.func3.symm.trans hfn)).symm
      exact ⟨by kernel_rfl, fun j t ht => by
        rw [Tryz.params3] at ht
        have hm : t ∈ [9] := by simpa using Array.mem_of_getElem? ht
        have hall : ([9].all fun u => !Tryz.prog.wantsStandIn u) = true := by kernel_rfl
        exact (show Tryz.prog.wantsStandIn t = false by simpa using List.all_eq_true.1 hall t hm)⟩)
    (by kernel_rfl)
#print axioms machReads_card
end Go.Proofs.YtfpjdgobannneaaGreatDoor
