/- The document's reader (intarsiaref01.Read): its contract, as the kit's tool printed it for this claim. -/
import Derived.Test.YtoibcaoaljglbaaDoorRefPa
namespace Go.Proofs.YtoibcaoaljglbaaDoor.Ref
open Go.RowKit Go.Proofs.YtoibcaoaljglbaaDoorW.PrintWords Go.Proofs.YtoibcaoaljglbaaDoorW.PrintLast Go.Proofs.YtoibcaoaljglbaaDoorW.PrintMore
attribute [local go_sem] max2_int min2_int max_two min_two max_three min_three max_four min_four   -- for this text's walks alone
set_option linter.unusedVariables false
set_option linter.unusedSimpArgs false

/-! ### intarsiaref01_Read: function 40 -/
mutual
def intarsiaref01_Read.l0 : Nat → ByteArray → List (S89) → Int → Int → Bool → Int → Option ((List (S89)) × Int × Int × Int)
  | 0, _, _, _, _, _, _ => none
  | k + 1, x0, x6, x7, x8, x9, x10 => if x10 < (x0.size : Int) then ((intarsiaref01_at.f k x0 x10).bind fun bt159 => (if bt159.2 = 0 then (some (([] : List (S89)), x7, x8, 6)) else (if bt159.1 = 10 then (if x6.length < 2932031007402 then (intarsiaref01_Read.l0 k x0 (x6 ++ [(⟨4, (⟨#[]⟩ : ByteArray), 0, x7, x8⟩ : S89)]) (wrap64 (x7 + 1)) 1 false (wrap64 (x10 + 1))) else (none)) else (if x9 = true then (intarsiaref01_Read.j1 k x0 x6 x7 x8 x9 x10 bt159.1 bt159.2 true) else ((intarsiaref01_blank.f bt159.1).bind fun t164 => (if t164 = true then (intarsiaref01_Read.j1 k x0 x6 x7 x8 x9 x10 bt159.1 bt159.2 true) else (intarsiaref01_Read.j1 k x0 x6 x7 x8 x9 x10 bt159.1 bt159.2 (bt159.1 == 59)))))))) else (some (x6, 0, 0, 0))
def intarsiaref01_Read.j1 : Nat → ByteArray → List (S89) → Int → Int → Bool → Int → Int → Int → Bool → Option ((List (S89)) × Int × Int × Int)
  | 0, _, _, _, _, _, _, _, _, _ => none
  | k + 1, x0, x6, x7, x8, x9, x10, x11, x12, x56 => if x56 = true then (if x9 = true then (intarsiaref01_Read.l0 k x0 x6 x7 (wrap64 (x8 + 1)) true (wrap64 (x10 + x12))) else (intarsiaref01_Read.l0 k x0 x6 x7 (wrap64 (x8 + 1)) (x11 == 59) (wrap64 (x10 + x12)))) else (if 0 ≤ x10 then (if x10 ≤ (wrap64 (x10 + x12)) then (if (wrap64 (x10 + x12)) ≤ (x0.size : Int) then ((intarsiaref01_numbers.f k x0 x10).bind fun t166 => (if t166 > 0 then (if x10 ≤ (wrap64 (x10 + t166)) then (if (wrap64 (x10 + t166)) ≤ (x0.size : Int) then ((intarsiaref01_value.f k (x0.extract (x10 : Int).toNat ((wrap64 (x10 + t166)) : Int).toNat)).bind fun bt167 => (if bt167.2 = true then ((intarsiaref01_at.f k x0 (wrap64 (x10 + t166))).bind fun bt169 => (if bt169.2 > 0 then ((intarsiaref01_Letter.f bt169.1).bind fun t171 => (if t171 = true then (some (([] : List (S89)), x7, wrap64 (x8 + t166), 6)) else (if x6.length < 2932031007402 then (intarsiaref01_Read.l0 k x0 (x6 ++ [(⟨2, x0.extract (x10 : Int).toNat ((wrap64 (x10 + t166)) : Int).toNat, bt167.1, x7, x8⟩ : S89)]) x7 (wrap64 (x8 + t166)) x9 (wrap64 (x10 + ((x0.extract (x10 : Int).toNat ((wrap64 (x10 + t166)) : Int).toNat).size : Int)))) else (none)))) else (if x6.length < 2932031007402 then (intarsiaref01_Read.l0 k x0 (x6 ++ [(⟨2, x0.extract (x10 : Int).toNat ((wrap64 (x10 + t166)) : Int).toNat, bt167.1, x7, x8⟩ : S89)]) x7 (wrap64 (x8 + t166)) x9 (wrap64 (x10 + ((x0.extract (x10 : Int).toNat ((wrap64 (x10 + t166)) : Int).toNat).size : Int)))) else (none)))) else (some (([] : List (S89)), x7, x8, 3)))) else (none)) else (none)) else ((intarsiaref01_Letter.f x11).bind fun t178 => (if t178 = true then ((intarsiaref01_run.f k x0 x10 false).bind fun bt179 => (if bt179.2 > 16 then (some (([] : List (S89)), x7, x8, 3)) else (if x10 ≤ (wrap64 (x10 + bt179.1)) then (if (wrap64 (x10 + bt179.1)) ≤ (x0.size : Int) then (if x6.length < 2932031007402 then (intarsiaref01_Read.l0 k x0 (x6 ++ [(⟨1, x0.extract (x10 : Int).toNat ((wrap64 (x10 + bt179.1)) : Int).toNat, 0, x7, x8⟩ : S89)]) x7 (wrap64 (x8 + bt179.2)) x9 (wrap64 (x10 + ((x0.extract (x10 : Int).toNat ((wrap64 (x10 + bt179.1)) : Int).toNat).size : Int)))) else (none)) else (none)) else (none)))) else ((intarsiaref01_Sign.f x11).bind fun t184 => (if t184 = true then (if x6.length < 2932031007402 then (intarsiaref01_Read.l0 k x0 (x6 ++ [(⟨3, x0.extract (x10 : Int).toNat ((wrap64 (x10 + x12)) : Int).toNat, 0, x7, x8⟩ : S89)]) x7 (wrap64 (x8 + 1)) x9 (wrap64 (x10 + ((x0.extract (x10 : Int).toNat ((wrap64 (x10 + x12)) : Int).toNat).size : Int)))) else (none)) else (some (([] : List (S89)), x7, x8, 6)))))))) else (none)) else (none)) else (none))
end
def intarsiaref01_Read.f (k : Nat) (a0 : ByteArray) : Option ((List (S89)) × Int × Int × Int) := intarsiaref01_Read.l0 k a0 ([] : List (S89)) 1 1 false 0
theorem intarsiaref01_Read.mono_l : ∀ k, (∀ y0 y1 y2 y3 y4 y5, LeO (intarsiaref01_Read.l0 k y0 y1 y2 y3 y4 y5) (intarsiaref01_Read.l0 (k + 1) y0 y1 y2 y3 y4 y5)) ∧ (∀ y0 y1 y2 y3 y4 y5 y6 y7 y8, LeO (intarsiaref01_Read.j1 k y0 y1 y2 y3 y4 y5 y6 y7 y8) (intarsiaref01_Read.j1 (k + 1) y0 y1 y2 y3 y4 y5 y6 y7 y8))
  | 0 => ⟨fun _ _ _ _ _ _ r h => by simp [intarsiaref01_Read.l0] at h, fun _ _ _ _ _ _ _ _ _ r h => by simp [intarsiaref01_Read.j1] at h⟩
  | k + 1 => by
    obtain ⟨ih0, ih1⟩ := intarsiaref01_Read.mono_l k
    refine ⟨?_, ?_⟩
    · intro y0 y1 y2 y3 y4 y5
      unfold intarsiaref01_Read.l0
      repeat' first
      | (with_reducible exact ih0 _ _ _ _ _ _)
      | (with_reducible exact ih1 _ _ _ _ _ _ _ _ _)
      | (with_reducible exact intarsiaref01_at.mono _ _ _)
      | (with_reducible exact intarsiaref01_numbers.mono _ _ _)
      | (with_reducible exact intarsiaref01_run.mono _ _ _ _)
      | (with_reducible exact intarsiaref01_value.mono _ _)
      | (with_reducible exact LeO.refl _)
      | (with_reducible exact LeO.none _)
      | (with_reducible refine LeO.ite ?_ ?_)
      | (with_reducible refine LeO.bind ?_ (fun _ => ?_))
      | exact ih0 _ _ _ _ _ _
      | exact ih1 _ _ _ _ _ _ _ _ _
      | exact intarsiaref01_at.mono _ _ _
      | exact intarsiaref01_numbers.mono _ _ _
      | exact intarsiaref01_run.mono _ _ _ _
      | exact intarsiaref01_value.mono _ _
      | exact LeO.none _
      | refine LeO.ite ?_ ?_
      | refine LeO.bind ?_ (fun _ => ?_)
    · intro y0 y1 y2 y3 y4 y5 y6 y7 y8
      unfold intarsiaref01_Read.j1
      repeat' first
      | (with_reducible exact ih0 _ _ _ _ _ _)
      | (with_reducible exact ih1 _ _ _ _ _ _ _ _ _)
      | (with_reducible exact intarsiaref01_at.mono _ _ _)
      | (with_reducible exact intarsiaref01_numbers.mono _ _ _)
      | (with_reducible exact intarsiaref01_run.mono _ _ _ _)
      | (with_reducible exact intarsiaref01_value.mono _ _)
      | (with_reducible exact LeO.refl _)
      | (with_reducible exact LeO.none _)
      | (with_reducible refine LeO.ite ?_ ?_)
      | (with_reducible refine LeO.bind ?_ (fun _ => ?_))
      | exact ih0 _ _ _ _ _ _
      | exact ih1 _ _ _ _ _ _ _ _ _
      | exact intarsiaref01_at.mono _ _ _
      | exact intarsiaref01_numbers.mono _ _ _
      | exact intarsiaref01_run.mono _ _ _ _
      | exact intarsiaref01_value.mono _ _
      | exact LeO.none _
      | refine LeO.ite ?_ ?_
      | refine LeO.bind ?_ (fun _ => ?_)
theorem intarsiaref01_Read.mono : ∀ a0 k, LeO (intarsiaref01_Read.f k a0) (intarsiaref01_Read.f (k + 1) a0) := by
  intro a0 k
  obtain ⟨ih0, ih1⟩ := intarsiaref01_Read.mono_l k
  unfold intarsiaref01_Read.f
  repeat' first
      | (with_reducible exact ih0 _ _ _ _ _ _)
      | (with_reducible exact ih1 _ _ _ _ _ _ _ _ _)
      | (with_reducible exact intarsiaref01_at.mono _ _ _)
      | (with_reducible exact intarsiaref01_numbers.mono _ _ _)
      | (with_reducible exact intarsiaref01_run.mono _ _ _ _)
      | (with_reducible exact intarsiaref01_value.mono _ _)
      | (with_reducible exact LeO.refl _)
      | (with_reducible exact LeO.none _)
      | (with_reducible refine LeO.ite ?_ ?_)
      | (with_reducible refine LeO.bind ?_ (fun _ => ?_))
      | exact ih0 _ _ _ _ _ _
      | exact ih1 _ _ _ _ _ _ _ _ _
      | exact intarsiaref01_at.mono _ _ _
      | exact intarsiaref01_numbers.mono _ _ _
      | exact intarsiaref01_run.mono _ _ _ _
      | exact intarsiaref01_value.mono _ _
      | exact LeO.none _
      | refine LeO.ite ?_ ?_
      | refine LeO.bind ?_ (fun _ => ?_)
def intarsiaref01_Read.T26 : Bool × List (List Nat × List Nat) := (true, [([], []), ([], []), ([], []), ([], []), ([2, 3], [2, 3]), ([0, 1, 4], [0, 1, 4]), ([], []), ([], []), ([], []), ([8], [8]), ([0, 1, 2, 3, 4, 5, 8, 9], []), ([10, 5, 9, 0, 1, 2, 3, 4, 5, 8, 9], [5, 10]), ([0, 1, 2, 3, 4, 5, 6, 8, 9, 10, 11], []), ([12, 6, 11, 0, 1, 2, 3, 4, 5, 6, 8, 9, 10, 11], [6, 12]), ([7, 13, 0, 1, 2, 3, 4, 5, 6, 7, 8, 9, 10, 11, 12, 13], [7])])
def intarsiaref01_Read.B26 : List Nat := [0, 0, 0, 0, 12, 31, 0, 0, 0, 256, 831, 1855, 3967, 8063, 16383]
theorem intarsiaref01_Read.tab26 : rtab .any (opsOf Tryd.f40 26) = intarsiaref01_Read.T26 := by kernel_rfl
theorem intarsiaref01_Read.bits26 : waitsOk intarsiaref01_Read.T26.2 intarsiaref01_Read.B26 = true := by kernel_rfl
def intarsiaref01_Read.T34 : Bool × List (List Nat × List Nat) := (true, [([], []), ([], []), ([], []), ([], []), ([2, 3], [2, 3]), ([0, 1, 4], [0, 1, 4]), ([], []), ([], []), ([7], [7]), ([0, 1, 2, 3, 4, 5, 7, 8], []), ([9, 5, 8, 0, 1, 2, 3, 4, 5, 7, 8], [5, 9]), ([6, 10, 0, 1, 2, 3, 4, 5, 6, 7, 8, 9, 10], [6])])
def intarsiaref01_Read.B34 : List Nat := [0, 0, 0, 0, 12, 31, 0, 0, 128, 447, 959, 2047]
theorem intarsiaref01_Read.tab34 : rtab .any (opsOf Tryd.f40 34) = intarsiaref01_Read.T34 := by kernel_rfl
theorem intarsiaref01_Read.bits34 : waitsOk intarsiaref01_Read.T34.2 intarsiaref01_Read.B34 = true := by kernel_rfl
set_option maxHeartbeats 8000000 in
set_option maxRecDepth 100000 in
theorem intarsiaref01_Read.calls (k : Nat) (a0 : ByteArray) (r1 : List (S89)) (r2 : Int) (r3 : Int) (r4 : Int) (w : World) (h : intarsiaref01_Read.f k a0 = some (r1, r2, r3, r4)) :
    Calls Tryd.prog 40 #[.string a0] w fun e w' => ∃ v0_ : Value, e = .returned (.tuple #[v0_, .int .i64 r2, .int .i64 r3, .int .i64 r4]) ∧ Kd.R k89 89 w' w.heap.size (fun _ => True) v0_ r1 ∧ Below w.heap.size w w' := by
  have hu89 := Tryd.underlying89
  have HB := Aside0.mk (Below.refl w.heap.size w)
  have H : (intarsiaref01_Read.l0 k a0 ([] : List (S89)) 1 1 false 0) = some (r1, r2, r3, r4) := h
  clear h
  have H' := Aside0.mk H
  clear H
  go_enter Tryd.func40, Tryd.ntmps40
  go_wp2
  go_loopg [6, 7, 8, 9, 10] k (fun kq v6 v7 v8 v9 v10 w' => ∃ (x6_1 : List (S89)) (x7_1 : Int) (x8_1 : Int) (x9_1 : Bool) (x10_1 : Int), v7 = .int .i64 x7_1 ∧ v8 = .int .i64 x8_1 ∧ v9 = .bool x9_1 ∧ v10 = .int .i64 x10_1 ∧ Aside0 (intarsiaref01_Read.l0 kq a0 x6_1 x7_1 x8_1 x9_1 x10_1 = some (r1, r2, r3, r4)) ∧ Aside0 (kq ≤ k) ∧ Aside0 (Kd.R k89 89 w' w.heap.size (fun _ => True) v6 x6_1) ∧ Aside0 (Below w.heap.size w w'))
  case atStart => exact ⟨(([] : List (S89))), (1), (1), (false), (0), (by first | rfl | (simp; done) | (simp [*]; done)), (by first | rfl | (simp; done) | (simp [*]; done)), (by first | rfl | (simp; done) | (simp [*]; done)), (by first | rfl | (simp; done) | (simp [*]; done)), H', ⟨Nat.le_refl _⟩, ⟨by first | exact Kd.R_nil _ _ _ _ _ | exact Kd.N_nil _ _ _ _ _ | exact Kd.V_nil _ _ _ _ _ | exact Kd.Q_nil _ _ _ _ _ | exact Kd.S_nil _ _ _ _ _⟩, ⟨by repeat (first | (with_reducible first | exact HB.out | apply below_alloc | apply pw_below_drewN | apply below_drew1) | exact HB.out)⟩⟩
  case round =>
    clear H'
    obtain ⟨x6_1, x7_1, x8_1, x9_1, x10_1, rfl, rfl, rfl, rfl, HA, HK1, HO_6, HB⟩ := hrel
    cases gk with
    | zero => exact absurd HA.out (by simp [intarsiaref01_Read.l0])
    | succ k1 =>
      have H := HA.out
      clear HA
      simp only [intarsiaref01_Read.l0] at H
      by_cases c2 : x10_1 < (a0.size : Int)
      · rw [if_pos c2] at H
        have c2b0 : decide (x10_1 < (a0.size : Int)) = true := decide_eq_true c2
        clear c2
        replace H := Option.bind_eq_some_iff.mp H
        obtain ⟨⟨t159, t160⟩, A30, H⟩ := H
        replace H : (if t160 = 0 then (some (([] : List (S89)), x7_1, x8_1, 6)) else (if t159 = 10 then (if x6_1.length < 2932031007402 then (intarsiaref01_Read.l0 k1 a0 (x6_1 ++ [(⟨4, (⟨#[]⟩ : ByteArray), 0, x7_1, x8_1⟩ : S89)]) (wrap64 (x7_1 + 1)) 1 false (wrap64 (x10_1 + 1))) else (none)) else (if x9_1 = true then (intarsiaref01_Read.j1 k1 a0 x6_1 x7_1 x8_1 x9_1 x10_1 t159 t160 true) else ((intarsiaref01_blank.f t159).bind fun t164 => (if t164 = true then (intarsiaref01_Read.j1 k1 a0 x6_1 x7_1 x8_1 x9_1 x10_1 t159 t160 true) else (intarsiaref01_Read.j1 k1 a0 x6_1 x7_1 x8_1 x9_1 x10_1 t159 t160 (t159 == 59))))))) = some (r1, r2, r3, r4) := H
        have A3 := Aside0.mk A30
        clear A30
        by_cases c4 : t160 = 0
        · rw [if_pos c4] at H
          have c4b0 : (t160 == 0) = true := beq_iff_eq.mpr c4
          have c4b1 : (t160 != 0) = false := bne_eq_false_iff_eq.mpr c4
          clear c4
          simp only [Option.some.injEq, Prod.mk.injEq] at H
          obtain ⟨rfl, rfl, rfl, rfl⟩ := H
          go_wp2_with (first | ((with_reducible refine gate_callee (f := 60) rfl ?_); refine goesL_ (some 29) rfl rfl Tryd.func60 (by kernel_rfl) rfl #[.string a0, .int .i64 x10_1] rfl (by (try simp only [List.map_toArray, List.map_cons, List.map_nil]); first | done | rfl | (simp only [List.length_drop, List.length_take]; rfl)) ?_; (with_reducible refine (intarsiaref01_at.calls k1 a0 x10_1 t159 t160 _ A3.out).mono ?_); rintro e w' ⟨rfl, ⟨nd, rfl⟩⟩; refine ⟨_, rfl, ?_⟩))
          refine bodyPost_ret (results_list (rs := [.tmp 2, .tmp 3, .tmp 4, .tmp 5]) rfl (by simp) (.tmp (.tmp (.tmp (.tmp .nil))))) rfl ?_
          exact ⟨_, by first | rfl | (simp [errW_none, errW_some] <;> rfl) | (simp [*, errW_none, errW_some] <;> rfl), by first | exact Kd.R_nil _ _ _ _ _ | exact Kd.N_nil _ _ _ _ _ | exact Kd.V_nil _ _ _ _ _ | exact Kd.Q_nil _ _ _ _ _ | exact Kd.S_nil _ _ _ _ _, by repeat (first | (with_reducible first | exact HB.out | apply below_alloc | apply pw_below_drewN | apply below_drew1) | exact HB.out)⟩
        · rw [if_neg c4] at H
          have c4b0 : (t160 == 0) = false := beq_eq_false_iff_ne.mpr c4
          have c4b1 : (t160 != 0) = true := bne_iff_ne.mpr c4
          by_cases c5 : t159 = 10
          · rw [if_pos c5] at H
            have c5b0 : (t159 == 10) = true := beq_iff_eq.mpr c5
            have c5b1 : (t159 != 10) = false := bne_eq_false_iff_eq.mpr c5
            clear c5
            by_cases c6 : x6_1.length < 2932031007402
            · rw [if_pos c6] at H
              have LMc6 := Aside0.mk c6
              clear c6
              obtain ⟨y161, hy161⟩ : ∃ y_ : List (S89), y_ = (x6_1 ++ [(⟨4, (⟨#[]⟩ : ByteArray), 0, x7_1, x8_1⟩ : S89)]) := ⟨_, rfl⟩
              replace H : (intarsiaref01_Read.l0 k1 a0 y161 (wrap64 (x7_1 + 1)) 1 false (wrap64 (x10_1 + 1))) = some (r1, r2, r3, r4) := by first | (rw [hy161]; with_reducible exact H) | (have H2_ := (Option.bind_some _ _).symm.trans H; rw [hy161]; with_reducible exact H2_) | (have H2_ := (Option.bind_some _ _).symm.trans H; with_reducible exact H2_) | with_reducible exact H | (rw [hy161]; exact H) | exact H
              have Ny161 := Aside0.mk hy161
              clear hy161
              have H' := Aside0.mk H
              clear H
              go_wp2_with (first | ((with_reducible refine gate_callee (f := 60) rfl ?_); refine goesL_ (some 29) rfl rfl Tryd.func60 (by kernel_rfl) rfl #[.string a0, .int .i64 x10_1] rfl (by (try simp only [List.map_toArray, List.map_cons, List.map_nil]); first | done | rfl | (simp only [List.length_drop, List.length_take]; rfl)) ?_; (with_reducible refine (intarsiaref01_at.calls k1 a0 x10_1 t159 t160 _ A3.out).mono ?_); rintro e w' ⟨rfl, ⟨nd, rfl⟩⟩; refine ⟨_, rfl, ?_⟩) | ((with_reducible refine gate_builtin (b := .append) (xs := #[.tmp 38, .tmp 42]) rfl ?_); at_builtin; refine Kd.R_append k89 (w0 := w) w.heap.size rfl (.tmp 38) (.tmp 42) 83 89 (.agg #[(.int .i64 0), (.string ⟨#[]⟩), (.int .i64 0), (.int .i64 0), (.int .i64 0)]) 48 rfl Tryd.underlying83 info89 rfl (by decide) (by omega) u6 x6_1 (⟨4, (⟨#[]⟩ : ByteArray), 0, x7_1, x8_1⟩ : S89) [.int .i64 4, .string (⟨#[]⟩ : ByteArray), .int .i64 0, .int .i64 x7_1, .int .i64 x8_1] (fun _ => True) (fun _ => False) rfl rfl ?aP (fun _ hk => hk.elim) ?aF ?aO ?aB ?aS ?aL ?_; (case aP => exact k89_mkM _ _ _ (⟨4, (⟨#[]⟩ : ByteArray), 0, x7_1, x8_1⟩ : S89)); (case aB => exact (by repeat (first | (with_reducible first | exact HB.out | apply below_alloc | apply pw_below_drewN | apply below_drew1) | exact HB.out))); (case aF => exact (fun _ _ => trivial)); (case aO => exact (by (with_reducible repeat (first | apply Kd.R_alloc | apply Kd.R_drewN | apply Kd.R_drew)); exact HO_6.out)); (case aS => exact (below_size (by repeat (first | (with_reducible first | exact HB.out | apply below_alloc | apply pw_below_drewN | apply below_drew1) | exact HB.out)))); (case aL => have := LMc6.out; omega); intro v162 w7 ho hb hg hat; rw [← Ny161.out] at ho; have n0_ := Aside0.mk (hb); have n1_ := Aside0.mk (ho); clear HB; clear HO_6; have HB := n0_; have HO163 := n1_; clear n0_ n1_; clear ho hb hg hat))
              go_roundg k1
              case measure => have := HK1.out; omega
              case rel => exact ⟨(y161), (wrap64 (x7_1 + 1)), (1), (false), (wrap64 (x10_1 + 1)), (by first | rfl | (simp; done) | (simp [*]; done)), (by first | rfl | (simp; done) | (simp [*]; done)), (by first | rfl | (simp; done) | (simp [*]; done)), (by first | rfl | (simp; done) | (simp [*]; done)), H', ⟨by have := HK1.out; omega⟩, ⟨by (with_reducible repeat (first | apply Kd.R_alloc | apply Kd.R_drewN | apply Kd.R_drew)); exact HO163.out⟩, ⟨by repeat (first | (with_reducible first | exact HB.out | apply below_alloc | apply pw_below_drewN | apply below_drew1) | exact HB.out)⟩⟩
            · rw [if_neg c6] at H
              exact absurd H (by simp)
          · rw [if_neg c5] at H
            have c5b0 : (t159 == 10) = false := beq_eq_false_iff_ne.mpr c5
            have c5b1 : (t159 != 10) = true := bne_iff_ne.mpr c5
            have HC8 := Aside0.mk H
            clear H
            go_upto_region 15 with (first | ((with_reducible refine gate_callee (f := 60) rfl ?_); refine goesL_ (some 29) rfl rfl Tryd.func60 (by kernel_rfl) rfl #[.string a0, .int .i64 x10_1] rfl (by (try simp only [List.map_toArray, List.map_cons, List.map_nil]); first | done | rfl | (simp only [List.length_drop, List.length_take]; rfl)) ?_; (with_reducible refine (intarsiaref01_at.calls k1 a0 x10_1 t159 t160 _ A3.out).mono ?_); rintro e w' ⟨rfl, ⟨nd, rfl⟩⟩; refine ⟨_, rfl, ?_⟩))
            (try simp only [Act.put, List.setIfInBounds_toArray, List.set_cons_zero, List.set_cons_succ])
            go_cut [56] (fun v56 wc => ∃ (kq : Nat) (x56_7 : Bool), v56 = .bool x56_7 ∧ Aside0 (intarsiaref01_Read.j1 kq a0 x6_1 x7_1 x8_1 x9_1 x10_1 t159 t160 x56_7 = some (r1, r2, r3, r4)) ∧ Aside0 (kq ≤ k1) ∧ Aside0 (Kd.R k89 89 wc w.heap.size (fun _ => True) u6 x6_1) ∧ Aside0 (Below w.heap.size w wc))
            case first =>
              have H := HC8.out
              clear HC8
              by_cases c9 : x9_1 = true
              · subst c9
                have H1 : (intarsiaref01_Read.j1 k1 a0 x6_1 x7_1 x8_1 true x10_1 t159 t160 true) = some (r1, r2, r3, r4) := by rw [if_pos rfl] at H; exact H
                clear H
                have H := H1
                clear H1
                have H' := Aside0.mk H
                clear H
                go_wp2
                go_meet
                case rel => exact ⟨_, (true), (by first | rfl | (simp; done) | (simp [*]; done)), H', ⟨by have := HK1.out; first | omega | exact Nat.le_refl _⟩, ⟨by (with_reducible repeat (first | apply Kd.R_alloc | apply Kd.R_drewN | apply Kd.R_drew)); exact HO_6.out⟩, ⟨by repeat (first | (with_reducible first | exact HB.out | apply below_alloc | apply pw_below_drewN | apply below_drew1) | exact HB.out)⟩⟩
              · replace c9 := Bool.eq_false_iff.mpr c9
                subst c9
                have H1 : ((intarsiaref01_blank.f t159).bind fun t164 => (if t164 = true then (intarsiaref01_Read.j1 k1 a0 x6_1 x7_1 x8_1 false x10_1 t159 t160 true) else (intarsiaref01_Read.j1 k1 a0 x6_1 x7_1 x8_1 false x10_1 t159 t160 (t159 == 59)))) = some (r1, r2, r3, r4) := by rw [if_neg (show ¬ (false = true) by decide)] at H; exact H
                clear H
                have H := H1
                clear H1
                replace H := Option.bind_eq_some_iff.mp H
                obtain ⟨t164, A100, H⟩ := H
                replace H : (if t164 = true then (intarsiaref01_Read.j1 k1 a0 x6_1 x7_1 x8_1 false x10_1 t159 t160 true) else (intarsiaref01_Read.j1 k1 a0 x6_1 x7_1 x8_1 false x10_1 t159 t160 (t159 == 59))) = some (r1, r2, r3, r4) := H
                have A10 := Aside0.mk A100
                clear A100
                by_cases c11 : t164 = true
                · subst c11
                  have H1 : (intarsiaref01_Read.j1 k1 a0 x6_1 x7_1 x8_1 false x10_1 t159 t160 true) = some (r1, r2, r3, r4) := by rw [if_pos rfl] at H; exact H
                  clear H
                  have H := H1
                  clear H1
                  have H' := Aside0.mk H
                  clear H
                  go_wp2_with (first | (go_at_call 61; (with_reducible refine (intarsiaref01_blank.calls t159 true _ A10.out).mono ?_); rintro e w' ⟨rfl, ⟨nd, rfl⟩⟩))
                  go_meet
                  case rel => exact ⟨_, (true), (by first | rfl | (simp; done) | (simp [*]; done)), H', ⟨by have := HK1.out; first | omega | exact Nat.le_refl _⟩, ⟨by (with_reducible repeat (first | apply Kd.R_alloc | apply Kd.R_drewN | apply Kd.R_drew)); exact HO_6.out⟩, ⟨by repeat (first | (with_reducible first | exact HB.out | apply below_alloc | apply pw_below_drewN | apply below_drew1) | exact HB.out)⟩⟩
                · replace c11 := Bool.eq_false_iff.mpr c11
                  subst c11
                  have H1 : (intarsiaref01_Read.j1 k1 a0 x6_1 x7_1 x8_1 false x10_1 t159 t160 (t159 == 59)) = some (r1, r2, r3, r4) := by rw [if_neg (show ¬ (false = true) by decide)] at H; exact H
                  clear H
                  have H := H1
                  clear H1
                  have H' := Aside0.mk H
                  clear H
                  go_wp2_with (first | (go_at_call 61; (with_reducible refine (intarsiaref01_blank.calls t159 false _ A10.out).mono ?_); rintro e w' ⟨rfl, ⟨nd, rfl⟩⟩))
                  go_meet
                  case rel => exact ⟨_, ((t159 == 59)), (by first | rfl | (simp; done) | (simp [*]; done)), H', ⟨by have := HK1.out; first | omega | exact Nat.le_refl _⟩, ⟨by (with_reducible repeat (first | apply Kd.R_alloc | apply Kd.R_drewN | apply Kd.R_drew)); exact HO_6.out⟩, ⟨by repeat (first | (with_reducible first | exact HB.out | apply below_alloc | apply pw_below_drewN | apply below_drew1) | exact HB.out)⟩⟩
            case rest =>
              clear HC8
              try clear c1
              try clear c2
              try clear c2b0
              try clear p2
              try clear c4
              try clear c4b0
              try clear c4b1
              try clear c5
              try clear c5b0
              try clear c5b1
              try clear c6
              try clear p6
              try clear c9
              try clear c11
              obtain ⟨kq, x56_7, rfl, HA, HJ7, HO_6, HB⟩ := hcut
              cases kq with
              | zero => exact absurd HA.out (by simp [intarsiaref01_Read.j1])
              | succ kj7 =>
                have H := HA.out
                clear HA
                simp only [intarsiaref01_Read.j1] at H
                by_cases c12 : x56_7 = true
                · subst c12
                  have H1 : (if x9_1 = true then (intarsiaref01_Read.l0 kj7 a0 x6_1 x7_1 (wrap64 (x8_1 + 1)) true (wrap64 (x10_1 + t160))) else (intarsiaref01_Read.l0 kj7 a0 x6_1 x7_1 (wrap64 (x8_1 + 1)) (t159 == 59) (wrap64 (x10_1 + t160)))) = some (r1, r2, r3, r4) := by rw [if_pos rfl] at H; exact H
                  clear H
                  have H := H1
                  clear H1
                  by_cases c13 : x9_1 = true
                  · subst c13
                    have H1 : (intarsiaref01_Read.l0 kj7 a0 x6_1 x7_1 (wrap64 (x8_1 + 1)) true (wrap64 (x10_1 + t160))) = some (r1, r2, r3, r4) := by rw [if_pos rfl] at H; exact H
                    clear H
                    have H := H1
                    clear H1
                    have H' := Aside0.mk H
                    clear H
                    go_wp2
                    go_roundg kj7
                    case measure => have := HK1.out; have := HJ7.out; omega
                    case rel => exact ⟨(x6_1), (x7_1), (wrap64 (x8_1 + 1)), (true), (wrap64 (x10_1 + t160)), (by first | rfl | (simp; done) | (simp [*]; done)), (by first | rfl | (simp; done) | (simp [*]; done)), (by first | rfl | (simp; done) | (simp [*]; done)), (by first | rfl | (simp; done) | (simp [*]; done)), H', ⟨by have := HK1.out; have := HJ7.out; omega⟩, ⟨by (with_reducible repeat (first | apply Kd.R_alloc | apply Kd.R_drewN | apply Kd.R_drew)); exact HO_6.out⟩, ⟨by repeat (first | (with_reducible first | exact HB.out | apply below_alloc | apply pw_below_drewN | apply below_drew1) | exact HB.out)⟩⟩
                  · replace c13 := Bool.eq_false_iff.mpr c13
                    subst c13
                    have H1 : (intarsiaref01_Read.l0 kj7 a0 x6_1 x7_1 (wrap64 (x8_1 + 1)) (t159 == 59) (wrap64 (x10_1 + t160))) = some (r1, r2, r3, r4) := by rw [if_neg (show ¬ (false = true) by decide)] at H; exact H
                    clear H
                    have H := H1
                    clear H1
                    have H' := Aside0.mk H
                    clear H
                    go_wp2
                    go_roundg kj7
                    case measure => have := HK1.out; have := HJ7.out; omega
                    case rel => exact ⟨(x6_1), (x7_1), (wrap64 (x8_1 + 1)), ((t159 == 59)), (wrap64 (x10_1 + t160)), (by first | rfl | (simp; done) | (simp [*]; done)), (by first | rfl | (simp; done) | (simp [*]; done)), (by first | rfl | (simp; done) | (simp [*]; done)), (by first | rfl | (simp; done) | (simp [*]; done)), H', ⟨by have := HK1.out; have := HJ7.out; omega⟩, ⟨by (with_reducible repeat (first | apply Kd.R_alloc | apply Kd.R_drewN | apply Kd.R_drew)); exact HO_6.out⟩, ⟨by repeat (first | (with_reducible first | exact HB.out | apply below_alloc | apply pw_below_drewN | apply below_drew1) | exact HB.out)⟩⟩
                · replace c12 := Bool.eq_false_iff.mpr c12
                  subst c12
                  have H1 : (if 0 ≤ x10_1 then (if x10_1 ≤ (wrap64 (x10_1 + t160)) then (if (wrap64 (x10_1 + t160)) ≤ (a0.size : Int) then ((intarsiaref01_numbers.f kj7 a0 x10_1).bind fun t166 => (if t166 > 0 then (if x10_1 ≤ (wrap64 (x10_1 + t166)) then (if (wrap64 (x10_1 + t166)) ≤ (a0.size : Int) then ((intarsiaref01_value.f kj7 (a0.extract (x10_1 : Int).toNat ((wrap64 (x10_1 + t166)) : Int).toNat)).bind fun bt167 => (if bt167.2 = true then ((intarsiaref01_at.f kj7 a0 (wrap64 (x10_1 + t166))).bind fun bt169 => (if bt169.2 > 0 then ((intarsiaref01_Letter.f bt169.1).bind fun t171 => (if t171 = true then (some (([] : List (S89)), x7_1, wrap64 (x8_1 + t166), 6)) else (if x6_1.length < 2932031007402 then (intarsiaref01_Read.l0 kj7 a0 (x6_1 ++ [(⟨2, a0.extract (x10_1 : Int).toNat ((wrap64 (x10_1 + t166)) : Int).toNat, bt167.1, x7_1, x8_1⟩ : S89)]) x7_1 (wrap64 (x8_1 + t166)) x9_1 (wrap64 (x10_1 + ((a0.extract (x10_1 : Int).toNat ((wrap64 (x10_1 + t166)) : Int).toNat).size : Int)))) else (none)))) else (if x6_1.length < 2932031007402 then (intarsiaref01_Read.l0 kj7 a0 (x6_1 ++ [(⟨2, a0.extract (x10_1 : Int).toNat ((wrap64 (x10_1 + t166)) : Int).toNat, bt167.1, x7_1, x8_1⟩ : S89)]) x7_1 (wrap64 (x8_1 + t166)) x9_1 (wrap64 (x10_1 + ((a0.extract (x10_1 : Int).toNat ((wrap64 (x10_1 + t166)) : Int).toNat).size : Int)))) else (none)))) else (some (([] : List (S89)), x7_1, x8_1, 3)))) else (none)) else (none)) else ((intarsiaref01_Letter.f t159).bind fun t178 => (if t178 = true then ((intarsiaref01_run.f kj7 a0 x10_1 false).bind fun bt179 => (if bt179.2 > 16 then (some (([] : List (S89)), x7_1, x8_1, 3)) else (if x10_1 ≤ (wrap64 (x10_1 + bt179.1)) then (if (wrap64 (x10_1 + bt179.1)) ≤ (a0.size : Int) then (if x6_1.length < 2932031007402 then (intarsiaref01_Read.l0 kj7 a0 (x6_1 ++ [(⟨1, a0.extract (x10_1 : Int).toNat ((wrap64 (x10_1 + bt179.1)) : Int).toNat, 0, x7_1, x8_1⟩ : S89)]) x7_1 (wrap64 (x8_1 + bt179.2)) x9_1 (wrap64 (x10_1 + ((a0.extract (x10_1 : Int).toNat ((wrap64 (x10_1 + bt179.1)) : Int).toNat).size : Int)))) else (none)) else (none)) else (none)))) else ((intarsiaref01_Sign.f t159).bind fun t184 => (if t184 = true then (if x6_1.length < 2932031007402 then (intarsiaref01_Read.l0 kj7 a0 (x6_1 ++ [(⟨3, a0.extract (x10_1 : Int).toNat ((wrap64 (x10_1 + t160)) : Int).toNat, 0, x7_1, x8_1⟩ : S89)]) x7_1 (wrap64 (x8_1 + 1)) x9_1 (wrap64 (x10_1 + ((a0.extract (x10_1 : Int).toNat ((wrap64 (x10_1 + t160)) : Int).toNat).size : Int)))) else (none)) else (some (([] : List (S89)), x7_1, x8_1, 6)))))))) else (none)) else (none)) else (none)) = some (r1, r2, r3, r4) := by rw [if_neg (show ¬ (false = true) by decide)] at H; exact H
                  clear H
                  have H := H1
                  clear H1
                  by_cases c14 : 0 ≤ x10_1
                  · rw [if_pos c14] at H
                    have c14b0 := eq_true c14
                    have c14b1 : decide (0 ≤ x10_1) = true := decide_eq_true c14
                    clear c14
                    by_cases c15 : x10_1 ≤ (wrap64 (x10_1 + t160))
                    · rw [if_pos c15] at H
                      have c15b0 := eq_true c15
                      have c15b1 : decide (x10_1 ≤ (wrap64 (x10_1 + t160))) = true := decide_eq_true c15
                      by_cases c16 : (wrap64 (x10_1 + t160)) ≤ (a0.size : Int)
                      · rw [if_pos c16] at H
                        have c16b0 := eq_true c16
                        have c16b1 : decide ((wrap64 (x10_1 + t160)) ≤ (a0.size : Int)) = true := decide_eq_true c16
                        replace H := Option.bind_eq_some_iff.mp H
                        obtain ⟨t166, A170, H⟩ := H
                        replace H : (if t166 > 0 then (if x10_1 ≤ (wrap64 (x10_1 + t166)) then (if (wrap64 (x10_1 + t166)) ≤ (a0.size : Int) then ((intarsiaref01_value.f kj7 (a0.extract (x10_1 : Int).toNat ((wrap64 (x10_1 + t166)) : Int).toNat)).bind fun bt167 => (if bt167.2 = true then ((intarsiaref01_at.f kj7 a0 (wrap64 (x10_1 + t166))).bind fun bt169 => (if bt169.2 > 0 then ((intarsiaref01_Letter.f bt169.1).bind fun t171 => (if t171 = true then (some (([] : List (S89)), x7_1, wrap64 (x8_1 + t166), 6)) else (if x6_1.length < 2932031007402 then (intarsiaref01_Read.l0 kj7 a0 (x6_1 ++ [(⟨2, a0.extract (x10_1 : Int).toNat ((wrap64 (x10_1 + t166)) : Int).toNat, bt167.1, x7_1, x8_1⟩ : S89)]) x7_1 (wrap64 (x8_1 + t166)) x9_1 (wrap64 (x10_1 + ((a0.extract (x10_1 : Int).toNat ((wrap64 (x10_1 + t166)) : Int).toNat).size : Int)))) else (none)))) else (if x6_1.length < 2932031007402 then (intarsiaref01_Read.l0 kj7 a0 (x6_1 ++ [(⟨2, a0.extract (x10_1 : Int).toNat ((wrap64 (x10_1 + t166)) : Int).toNat, bt167.1, x7_1, x8_1⟩ : S89)]) x7_1 (wrap64 (x8_1 + t166)) x9_1 (wrap64 (x10_1 + ((a0.extract (x10_1 : Int).toNat ((wrap64 (x10_1 + t166)) : Int).toNat).size : Int)))) else (none)))) else (some (([] : List (S89)), x7_1, x8_1, 3)))) else (none)) else (none)) else ((intarsiaref01_Letter.f t159).bind fun t178 => (if t178 = true then ((intarsiaref01_run.f kj7 a0 x10_1 false).bind fun bt179 => (if bt179.2 > 16 then (some (([] : List (S89)), x7_1, x8_1, 3)) else (if x10_1 ≤ (wrap64 (x10_1 + bt179.1)) then (if (wrap64 (x10_1 + bt179.1)) ≤ (a0.size : Int) then (if x6_1.length < 2932031007402 then (intarsiaref01_Read.l0 kj7 a0 (x6_1 ++ [(⟨1, a0.extract (x10_1 : Int).toNat ((wrap64 (x10_1 + bt179.1)) : Int).toNat, 0, x7_1, x8_1⟩ : S89)]) x7_1 (wrap64 (x8_1 + bt179.2)) x9_1 (wrap64 (x10_1 + ((a0.extract (x10_1 : Int).toNat ((wrap64 (x10_1 + bt179.1)) : Int).toNat).size : Int)))) else (none)) else (none)) else (none)))) else ((intarsiaref01_Sign.f t159).bind fun t184 => (if t184 = true then (if x6_1.length < 2932031007402 then (intarsiaref01_Read.l0 kj7 a0 (x6_1 ++ [(⟨3, a0.extract (x10_1 : Int).toNat ((wrap64 (x10_1 + t160)) : Int).toNat, 0, x7_1, x8_1⟩ : S89)]) x7_1 (wrap64 (x8_1 + 1)) x9_1 (wrap64 (x10_1 + ((a0.extract (x10_1 : Int).toNat ((wrap64 (x10_1 + t160)) : Int).toNat).size : Int)))) else (none)) else (some (([] : List (S89)), x7_1, x8_1, 6))))))) = some (r1, r2, r3, r4) := H
                        have A17 := Aside0.mk A170
                        clear A170
                        by_cases c18 : t166 > 0
                        · rw [if_pos c18] at H
                          have c18b0 : decide (0 < t166) = true := decide_eq_true c18
                          clear c18
                          have c19b0 := eq_true (of_decide_eq_true (by first | (with_reducible assumption) | assumption) : 0 ≤ x10_1)
                          by_cases c20 : x10_1 ≤ (wrap64 (x10_1 + t166))
                          · rw [if_pos c20] at H
                            have c20b0 := eq_true c20
                            have c20b1 : decide (x10_1 ≤ (wrap64 (x10_1 + t166))) = true := decide_eq_true c20
                            by_cases c21 : (wrap64 (x10_1 + t166)) ≤ (a0.size : Int)
                            · rw [if_pos c21] at H
                              have c21b0 := eq_true c21
                              have c21b1 : decide ((wrap64 (x10_1 + t166)) ≤ (a0.size : Int)) = true := decide_eq_true c21
                              replace H := Option.bind_eq_some_iff.mp H
                              obtain ⟨⟨t167, t168⟩, A220, H⟩ := H
                              replace H : (if t168 = true then ((intarsiaref01_at.f kj7 a0 (wrap64 (x10_1 + t166))).bind fun bt169 => (if bt169.2 > 0 then ((intarsiaref01_Letter.f bt169.1).bind fun t171 => (if t171 = true then (some (([] : List (S89)), x7_1, wrap64 (x8_1 + t166), 6)) else (if x6_1.length < 2932031007402 then (intarsiaref01_Read.l0 kj7 a0 (x6_1 ++ [(⟨2, a0.extract (x10_1 : Int).toNat ((wrap64 (x10_1 + t166)) : Int).toNat, t167, x7_1, x8_1⟩ : S89)]) x7_1 (wrap64 (x8_1 + t166)) x9_1 (wrap64 (x10_1 + ((a0.extract (x10_1 : Int).toNat ((wrap64 (x10_1 + t166)) : Int).toNat).size : Int)))) else (none)))) else (if x6_1.length < 2932031007402 then (intarsiaref01_Read.l0 kj7 a0 (x6_1 ++ [(⟨2, a0.extract (x10_1 : Int).toNat ((wrap64 (x10_1 + t166)) : Int).toNat, t167, x7_1, x8_1⟩ : S89)]) x7_1 (wrap64 (x8_1 + t166)) x9_1 (wrap64 (x10_1 + ((a0.extract (x10_1 : Int).toNat ((wrap64 (x10_1 + t166)) : Int).toNat).size : Int)))) else (none)))) else (some (([] : List (S89)), x7_1, x8_1, 3))) = some (r1, r2, r3, r4) := H
                              have A22 := Aside0.mk A220
                              clear A220
                              by_cases c23 : t168 = true
                              · subst c23
                                have H1 : ((intarsiaref01_at.f kj7 a0 (wrap64 (x10_1 + t166))).bind fun bt169 => (if bt169.2 > 0 then ((intarsiaref01_Letter.f bt169.1).bind fun t171 => (if t171 = true then (some (([] : List (S89)), x7_1, wrap64 (x8_1 + t166), 6)) else (if x6_1.length < 2932031007402 then (intarsiaref01_Read.l0 kj7 a0 (x6_1 ++ [(⟨2, a0.extract (x10_1 : Int).toNat ((wrap64 (x10_1 + t166)) : Int).toNat, t167, x7_1, x8_1⟩ : S89)]) x7_1 (wrap64 (x8_1 + t166)) x9_1 (wrap64 (x10_1 + ((a0.extract (x10_1 : Int).toNat ((wrap64 (x10_1 + t166)) : Int).toNat).size : Int)))) else (none)))) else (if x6_1.length < 2932031007402 then (intarsiaref01_Read.l0 kj7 a0 (x6_1 ++ [(⟨2, a0.extract (x10_1 : Int).toNat ((wrap64 (x10_1 + t166)) : Int).toNat, t167, x7_1, x8_1⟩ : S89)]) x7_1 (wrap64 (x8_1 + t166)) x9_1 (wrap64 (x10_1 + ((a0.extract (x10_1 : Int).toNat ((wrap64 (x10_1 + t166)) : Int).toNat).size : Int)))) else (none)))) = some (r1, r2, r3, r4) := by rw [if_pos rfl] at H; exact H
                                clear H
                                have H := H1
                                clear H1
                                have c24b0 := eq_true (of_decide_eq_true (by first | (with_reducible assumption) | assumption) : 0 ≤ x10_1)
                                have c25b0 := eq_true (of_decide_eq_true (by first | (with_reducible assumption) | assumption) : x10_1 ≤ (wrap64 (x10_1 + t166)))
                                have c26b0 := eq_true (of_decide_eq_true (by first | (with_reducible assumption) | assumption) : (wrap64 (x10_1 + t166)) ≤ (a0.size : Int))
                                replace H := Option.bind_eq_some_iff.mp H
                                obtain ⟨⟨t169, t170⟩, A270, H⟩ := H
                                replace H : (if t170 > 0 then ((intarsiaref01_Letter.f t169).bind fun t171 => (if t171 = true then (some (([] : List (S89)), x7_1, wrap64 (x8_1 + t166), 6)) else (if x6_1.length < 2932031007402 then (intarsiaref01_Read.l0 kj7 a0 (x6_1 ++ [(⟨2, a0.extract (x10_1 : Int).toNat ((wrap64 (x10_1 + t166)) : Int).toNat, t167, x7_1, x8_1⟩ : S89)]) x7_1 (wrap64 (x8_1 + t166)) x9_1 (wrap64 (x10_1 + ((a0.extract (x10_1 : Int).toNat ((wrap64 (x10_1 + t166)) : Int).toNat).size : Int)))) else (none)))) else (if x6_1.length < 2932031007402 then (intarsiaref01_Read.l0 kj7 a0 (x6_1 ++ [(⟨2, a0.extract (x10_1 : Int).toNat ((wrap64 (x10_1 + t166)) : Int).toNat, t167, x7_1, x8_1⟩ : S89)]) x7_1 (wrap64 (x8_1 + t166)) x9_1 (wrap64 (x10_1 + ((a0.extract (x10_1 : Int).toNat ((wrap64 (x10_1 + t166)) : Int).toNat).size : Int)))) else (none))) = some (r1, r2, r3, r4) := H
                                have A27 := Aside0.mk A270
                                clear A270
                                by_cases c28 : t170 > 0
                                · rw [if_pos c28] at H
                                  have c28b0 : decide (0 < t170) = true := decide_eq_true c28
                                  clear c28
                                  replace H := Option.bind_eq_some_iff.mp H
                                  obtain ⟨t171, A290, H⟩ := H
                                  replace H : (if t171 = true then (some (([] : List (S89)), x7_1, wrap64 (x8_1 + t166), 6)) else (if x6_1.length < 2932031007402 then (intarsiaref01_Read.l0 kj7 a0 (x6_1 ++ [(⟨2, a0.extract (x10_1 : Int).toNat ((wrap64 (x10_1 + t166)) : Int).toNat, t167, x7_1, x8_1⟩ : S89)]) x7_1 (wrap64 (x8_1 + t166)) x9_1 (wrap64 (x10_1 + ((a0.extract (x10_1 : Int).toNat ((wrap64 (x10_1 + t166)) : Int).toNat).size : Int)))) else (none))) = some (r1, r2, r3, r4) := H
                                  have A29 := Aside0.mk A290
                                  clear A290
                                  by_cases c30 : t171 = true
                                  · subst c30
                                    have H1 : (some (([] : List (S89)), x7_1, wrap64 (x8_1 + t166), 6)) = some (r1, r2, r3, r4) := by rw [if_pos rfl] at H; exact H
                                    clear H
                                    have H := H1
                                    clear H1
                                    simp only [Option.some.injEq, Prod.mk.injEq] at H
                                    obtain ⟨rfl, rfl, rfl, rfl⟩ := H
                                    try go_wp2_with (first | ((with_reducible refine gate_dst (N := 13) rfl ?_); refine box_event ?hg (N := 13) ?hd (cs := #[.int .i64 0, .string (⟨#[]⟩ : ByteArray), .int .i64 0, .int .i64 0, .int .i64 0]) (t := 89) ?hr ?_; (case hd => rfl); (case hg => rfl); (case hr => first | (go_simp; done) | (go_simp; rfl)); intro gb165 hg w31 hbox hb; have n0_ := Aside0.mk (Kd.R_below (Kd.R_elderB (by (with_reducible repeat (first | apply Kd.R_alloc | apply Kd.R_drewN | apply Kd.R_drew)); exact HO_6.out) gb165 (Nat.le_of_eq hg.symm)) hb); have n1_ := Aside0.mk (below_step (by repeat (first | (with_reducible first | exact HB.out | apply below_alloc | apply pw_below_drewN | apply below_drew1) | exact HB.out)) hb); have n2_ := Aside0.mk (hbox); have n3_ := Aside0.mk ((by rw [hg]; exact (below_size (by repeat (first | (with_reducible first | exact HB.out | apply below_alloc | apply pw_below_drewN | apply below_drew1) | exact HB.out))) : w.heap.size ≤ gb165)); have n4_ := Aside0.mk ((by rw [hg]; exact (below_size (by repeat (first | (with_reducible first | exact HB.out | apply below_alloc | apply pw_below_drewN | apply below_drew1) | exact HB.out))) : w.heap.size ≤ gb165)); clear HO_6; clear HB; have HO_6 := n0_; have HB := n1_; have BK165 := n2_; have GW165 := n3_; have GE165 := n4_; clear n0_ n1_ n2_ n3_ n4_; clear hb hbox hg; have hcz32_0 : w31.cell? ⟨gb165, 0, none⟩ = some (.int .i64 0) := (blk_cell BK165.out 0).trans rfl; have hcz32_1 : w31.cell? ⟨gb165, 1, none⟩ = some (.string (⟨#[]⟩ : ByteArray)) := (blk_cell BK165.out 1).trans rfl; have hcz32_2 : w31.cell? ⟨gb165, 2, none⟩ = some (.int .i64 0) := (blk_cell BK165.out 2).trans rfl; have hcz32_3 : w31.cell? ⟨gb165, 3, none⟩ = some (.int .i64 0) := (blk_cell BK165.out 3).trans rfl; have hcz32_4 : w31.cell? ⟨gb165, 4, none⟩ = some (.int .i64 0) := (blk_cell BK165.out 4).trans rfl; have hfz32_0 := blk_frozen BK165.out 0; have hfz32_1 := blk_frozen BK165.out 1; have hfz32_2 := blk_frozen BK165.out 2; have hfz32_3 := blk_frozen BK165.out 3; have hfz32_4 := blk_frozen BK165.out 4) | ((with_reducible refine gate_callee (f := 62) rfl ?_); refine goesL_ (some 78) rfl rfl Tryd.func62 (by kernel_rfl) rfl #[.string a0, .int .i64 x10_1] rfl (by (try simp only [List.map_toArray, List.map_cons, List.map_nil]); first | done | rfl | (simp only [List.length_drop, List.length_take]; rfl)) ?_; (with_reducible refine (intarsiaref01_numbers.calls kj7 a0 x10_1 t166 _ A17.out).mono ?_); rintro e w' ⟨rfl, ⟨nd, rfl⟩⟩; refine ⟨_, rfl, ?_⟩) | ((with_reducible refine gate_callee (f := 63) rfl ?_); refine goesL_ (some 89) rfl rfl Tryd.func63 (by kernel_rfl) rfl #[.string (a0.extract (x10_1 : Int).toNat ((wrap64 (x10_1 + t166)) : Int).toNat)] rfl (by (try simp only [List.map_toArray, List.map_cons, List.map_nil]); first | done | rfl | (simp only [List.length_drop, List.length_take]; rfl)) ?_; (with_reducible refine (intarsiaref01_value.calls kj7 (a0.extract (x10_1 : Int).toNat ((wrap64 (x10_1 + t166)) : Int).toNat) t167 true _ A22.out).mono ?_); rintro e w' ⟨rfl, ⟨nd, rfl⟩⟩; refine ⟨_, rfl, ?_⟩))
                                    have n0_ : Aside0 (Kd.R k89 89 (((((w31.setCell ⟨gb165, 0, none⟩ (.int .i64 3)).setCell ⟨gb165, 1, none⟩ (.string (a0.extract (x10_1 : Int).toNat ((wrap64 (x10_1 + t160)) : Int).toNat))).setCell ⟨gb165, 2, none⟩ (.int .i64 0)).setCell ⟨gb165, 3, none⟩ (.int .i64 x7_1)).setCell ⟨gb165, 4, none⟩ (.int .i64 x8_1)) w.heap.size (fun k_ => k_ ≠ gb165) u6 x6_1) := ⟨by (with_reducible repeat (first | apply Kd.R_alloc | apply Kd.R_drewN | apply Kd.R_drew)); exact Kd.R_mono (Kd.R_far (p := ⟨gb165, 4, none⟩) (Kd.R_far (p := ⟨gb165, 3, none⟩) (Kd.R_far (p := ⟨gb165, 2, none⟩) (Kd.R_far (p := ⟨gb165, 1, none⟩) (Kd.R_far (p := ⟨gb165, 0, none⟩) (Kd.R_mono HO_6.out (fun k_ hk => (⟨hk, hk.2⟩ : _ ∧ k_ ≠ gb165))) (fun _ hk => hk.2) (.int .i64 3)) (fun _ hk => hk.2) (.string (a0.extract (x10_1 : Int).toNat ((wrap64 (x10_1 + t160)) : Int).toNat))) (fun _ hk => hk.2) (.int .i64 0)) (fun _ hk => hk.2) (.int .i64 x7_1)) (fun _ hk => hk.2) (.int .i64 x8_1)) (fun _ hk => hk.1.2)⟩
                                    have n1_ : Aside0 ((((((w31.setCell ⟨gb165, 0, none⟩ (.int .i64 3)).setCell ⟨gb165, 1, none⟩ (.string (a0.extract (x10_1 : Int).toNat ((wrap64 (x10_1 + t160)) : Int).toNat))).setCell ⟨gb165, 2, none⟩ (.int .i64 0)).setCell ⟨gb165, 3, none⟩ (.int .i64 x7_1)).setCell ⟨gb165, 4, none⟩ (.int .i64 x8_1)).heap[gb165]? = some (.cells #[.int .i64 3, .string (a0.extract (x10_1 : Int).toNat ((wrap64 (x10_1 + t160)) : Int).toNat), .int .i64 0, .int .i64 x7_1, .int .i64 x8_1] 89 (0, 0))) := ⟨by (with_reducible repeat (first | refine blk_drewN ?_ _ | refine blk_drew ?_ | refine blk_alloc ?_ _)); refine blk_put (cs := #[.int .i64 3, .string (a0.extract (x10_1 : Int).toNat ((wrap64 (x10_1 + t160)) : Int).toNat), .int .i64 0, .int .i64 x7_1, .int .i64 0]) ?_ 4 _ rfl; (with_reducible repeat (first | refine blk_drewN ?_ _ | refine blk_drew ?_ | refine blk_alloc ?_ _)); refine blk_put (cs := #[.int .i64 3, .string (a0.extract (x10_1 : Int).toNat ((wrap64 (x10_1 + t160)) : Int).toNat), .int .i64 0, .int .i64 0, .int .i64 0]) ?_ 3 _ rfl; (with_reducible repeat (first | refine blk_drewN ?_ _ | refine blk_drew ?_ | refine blk_alloc ?_ _)); refine blk_put (cs := #[.int .i64 3, .string (a0.extract (x10_1 : Int).toNat ((wrap64 (x10_1 + t160)) : Int).toNat), .int .i64 0, .int .i64 0, .int .i64 0]) ?_ 2 _ rfl; (with_reducible repeat (first | refine blk_drewN ?_ _ | refine blk_drew ?_ | refine blk_alloc ?_ _)); refine blk_put (cs := #[.int .i64 3, .string (⟨#[]⟩ : ByteArray), .int .i64 0, .int .i64 0, .int .i64 0]) ?_ 1 _ rfl; (with_reducible repeat (first | refine blk_drewN ?_ _ | refine blk_drew ?_ | refine blk_alloc ?_ _)); refine blk_put (cs := #[.int .i64 0, .string (⟨#[]⟩ : ByteArray), .int .i64 0, .int .i64 0, .int .i64 0]) ?_ 0 _ rfl; (with_reducible repeat (first | refine blk_drewN ?_ _ | refine blk_drew ?_ | refine blk_alloc ?_ _)); exact BK165.out⟩
                                    have n2_ : Aside0 (Below w.heap.size w (((((w31.setCell ⟨gb165, 0, none⟩ (.int .i64 3)).setCell ⟨gb165, 1, none⟩ (.string (a0.extract (x10_1 : Int).toNat ((wrap64 (x10_1 + t160)) : Int).toNat))).setCell ⟨gb165, 2, none⟩ (.int .i64 0)).setCell ⟨gb165, 3, none⟩ (.int .i64 x7_1)).setCell ⟨gb165, 4, none⟩ (.int .i64 x8_1))) := ⟨by repeat (first | (with_reducible first | exact HB.out | apply below_alloc | apply pw_below_drewN | apply below_drew1 | refine below_set ?_ GE165.out) | exact HB.out)⟩
                                    (try clear HO_6)
                                    (try clear BK165)
                                    (try clear HB)
                                    generalize (((((w31.setCell ⟨gb165, 0, none⟩ (.int .i64 3)).setCell ⟨gb165, 1, none⟩ (.string (a0.extract (x10_1 : Int).toNat ((wrap64 (x10_1 + t160)) : Int).toNat))).setCell ⟨gb165, 2, none⟩ (.int .i64 0)).setCell ⟨gb165, 3, none⟩ (.int .i64 x7_1)).setCell ⟨gb165, 4, none⟩ (.int .i64 x8_1)) = w33 at n0_ n1_ n2_ ⊢
                                    have HO_6 := n0_
                                    have BK165 := n1_
                                    have HB := n2_
                                    clear n0_ n1_ n2_
                                    (try (rw [drewN_self w33]; generalize hq_ : World.drewN w33 _ = w33; have n0_ : Aside0 (Kd.R k89 89 w33 w.heap.size (fun k_ => k_ ≠ gb165) u6 x6_1) := ⟨by rw [← hq_]; exact (by (with_reducible repeat (first | apply Kd.R_alloc | apply Kd.R_drewN | apply Kd.R_drew)); exact HO_6.out)⟩; have n1_ : Aside0 (w33.heap[gb165]? = some (.cells #[.int .i64 3, .string (a0.extract (x10_1 : Int).toNat ((wrap64 (x10_1 + t160)) : Int).toNat), .int .i64 0, .int .i64 x7_1, .int .i64 x8_1] 89 (0, 0))) := ⟨by rw [← hq_]; exact (by (with_reducible repeat (first | refine blk_drewN ?_ _ | refine blk_drew ?_ | refine blk_alloc ?_ _)); exact BK165.out)⟩; have n2_ : Aside0 (Below w.heap.size w w33) := ⟨by rw [← hq_]; exact (by repeat (first | (with_reducible first | exact HB.out | apply below_alloc | apply pw_below_drewN | apply below_drew1 | refine below_set ?_ GE165.out) | exact HB.out))⟩; clear HO_6 BK165 HB hq_; have HO_6 := n0_; have BK165 := n1_; have HB := n2_; clear n0_ n1_ n2_))
                                    have n0_ := Aside0.mk (Kd.R_drew HO_6.out)
                                    have n1_ := Aside0.mk (blk_drew BK165.out)
                                    have n2_ := Aside0.mk (below_drew1 HB.out)
                                    clear HO_6
                                    clear BK165
                                    clear HB
                                    have HO_6 := n0_
                                    have BK165 := n1_
                                    have HB := n2_
                                    clear n0_ n1_ n2_
                                    refine start_ (n := 15) (S := fun w' => True) (ds := []) #[false, false, false, false, false, false, false, false, false, false, false, false, false, false, false] (by kernel_rfl) rfl rfl trivial (fun hHeld => ?_); refine with_tabW intarsiaref01_Read.tab26 intarsiaref01_Read.bits26 (fun HT_ HW_ => ?_)
                                    generalize w33.drew = w34 at HO_6 BK165 HB hHeld ⊢
                                    refine pure_ (i := 0) (N := some 96) (v := ?_) (a' := ?_) #[true, false, false, false, false, false, false, false, false, false, false, false, false, false, false] rfl rfl (any_of HT_.out (by kernel_rfl)) (fun _ _ _ h => h) (Or.inl ⟨by rfl, ?_⟩) ?_ ?_
                                    rotate_left
                                    · intro w'
                                      go_simp
                                      with_reducible rfl
                                    rotate_left
                                    · simp only [Act.put, List.setIfInBounds_toArray, List.set_cons_zero, List.set_cons_succ, i64_w, i32_w]
                                      rfl
                                    refine pure_ (i := 1) (N := some 97) (v := ?_) (a' := ?_) #[true, true, false, false, false, false, false, false, false, false, false, false, false, false, false] rfl rfl (any_of HT_.out (by kernel_rfl)) (fun _ _ _ h => h) (Or.inl ⟨by rfl, ?_⟩) ?_ ?_
                                    rotate_left
                                    · intro w'
                                      go_simp
                                      with_reducible rfl
                                    rotate_left
                                    · simp only [Act.put, List.setIfInBounds_toArray, List.set_cons_zero, List.set_cons_succ, i64_w, i32_w]
                                      rfl
                                    refine pure_ (i := 2) (N := some 98) (v := ?_) (a' := ?_) #[true, true, true, false, false, false, false, false, false, false, false, false, false, false, false] rfl rfl (any_of HT_.out (by kernel_rfl)) (fun _ _ _ h => h) (Or.inl ⟨by rfl, ?_⟩) ?_ ?_
                                    rotate_left
                                    · intro w'
                                      go_simp
                                      with_reducible rfl
                                    rotate_left
                                    · simp only [Act.put, List.setIfInBounds_toArray, List.set_cons_zero, List.set_cons_succ, i64_w, i32_w]
                                      rfl
                                    refine pure_ (i := 3) (N := some 99) (v := ?_) (a' := ?_) #[true, true, true, true, false, false, false, false, false, false, false, false, false, false, false] rfl rfl (any_of HT_.out (by kernel_rfl)) (fun _ _ _ h => h) (Or.inl ⟨by rfl, ?_⟩) ?_ ?_
                                    rotate_left
                                    · intro w'
                                      go_simp
                                      with_reducible rfl
                                    rotate_left
                                    · simp only [Act.put, List.setIfInBounds_toArray, List.set_cons_zero, List.set_cons_succ, i64_w, i32_w]
                                      rfl
                                    refine pure_ (i := 4) (N := some 100) (v := ?_) (a' := ?_) #[true, true, true, true, true, false, false, false, false, false, false, false, false, false, false] rfl rfl (any_of HT_.out (by kernel_rfl)) (fun _ _ _ h => h) (Or.inl ⟨by rfl, ?_⟩) ?_ ?_
                                    rotate_left
                                    · intro w'
                                      go_simp
                                      with_reducible rfl
                                    rotate_left
                                    · simp only [Act.put, List.setIfInBounds_toArray, List.set_cons_zero, List.set_cons_succ, i64_w, i32_w]
                                      rfl
                                    refine pure_ (i := 5) (N := some 101) (v := ?_) (a' := ?_) #[true, true, true, true, true, true, false, false, false, false, false, false, false, false, false] rfl rfl (any_of HT_.out (by kernel_rfl)) (fun _ _ _ h => h) (Or.inl ⟨by rfl, ?_⟩) ?_ ?_
                                    rotate_left
                                    · intro w'
                                      go_simp
                                      with_reducible rfl
                                    rotate_left
                                    · simp only [Act.put, List.setIfInBounds_toArray, List.set_cons_zero, List.set_cons_succ, i64_w, i32_w]
                                      rfl
                                    refine pure_ (i := 6) (N := some 102) (v := ?_) (a' := ?_) #[true, true, true, true, true, true, true, false, false, false, false, false, false, false, false] rfl rfl (any_of HT_.out (by kernel_rfl)) (fun _ _ _ h => h) (Or.inl ⟨by rfl, ?_⟩) ?_ ?_
                                    rotate_left
                                    · intro w'
                                      go_simp
                                      with_reducible rfl
                                    rotate_left
                                    · simp only [Act.put, List.setIfInBounds_toArray, List.set_cons_zero, List.set_cons_succ, i64_w, i32_w]
                                      rfl
                                    refine pure_ (i := 7) (N := some 103) (v := ?_) (a' := ?_) #[true, true, true, true, true, true, true, true, false, false, false, false, false, false, false] rfl rfl (any_of HT_.out (by kernel_rfl)) (fun _ _ _ h => h) (Or.inl ⟨by rfl, ?_⟩) ?_ ?_
                                    rotate_left
                                    · intro w'
                                      go_simp
                                      with_reducible rfl
                                    rotate_left
                                    · simp only [Act.put, List.setIfInBounds_toArray, List.set_cons_zero, List.set_cons_succ, i64_w, i32_w]
                                      rfl
                                    refine pure_ (i := 8) (N := some 104) (v := ?_) (a' := ?_) #[true, true, true, true, true, true, true, true, true, false, false, false, false, false, false] rfl rfl (any_of HT_.out (by kernel_rfl)) (fun _ _ _ h => h) (Or.inl ⟨by rfl, ?_⟩) ?_ ?_
                                    rotate_left
                                    · intro w'
                                      go_simp
                                      with_reducible rfl
                                    rotate_left
                                    · simp only [Act.put, List.setIfInBounds_toArray, List.set_cons_zero, List.set_cons_succ, i64_w, i32_w]
                                      rfl
                                    refine one_ (i := 9) (N := none) #[true, true, true, true, true, true, true, true, true, true, false, false, false, false, false] rfl rfl (one_of HT_.out (by kernel_rfl)) (by decide) (fun K hK => ?_)
                                    have hs35 : w34.cell? ⟨gb165, 0, none⟩ = some (.int .i64 3) := (blk_cell BK165.out 0).trans rfl
                                    have hfs35 := blk_frozen BK165.out 0
                                    refine skip_ (w1 := ?_) (by rfl) rfl ?_ ?_
                                    rotate_left
                                    · go_simp
                                      rfl
                                    refine hK.out _ _ trivial (fun hHeld => ?_)
                                    clear hK K
                                    refine pure_ (i := 10) (N := some 105) (v := ?_) (a' := ?_) #[true, true, true, true, true, true, true, true, true, true, true, false, false, false, false] rfl rfl (any_of HT_.out (by kernel_rfl)) (fun _ _ _ h => h) (Or.inl ⟨by rfl, ?_⟩) ?_ ?_
                                    rotate_left
                                    · intro w'
                                      go_simp
                                      with_reducible rfl
                                    rotate_left
                                    · simp only [Act.put, List.setIfInBounds_toArray, List.set_cons_zero, List.set_cons_succ, i64_w, i32_w]
                                      rfl
                                    refine one_ (i := 11) (N := none) #[true, true, true, true, true, true, true, true, true, true, true, true, false, false, false] rfl rfl (one_of HT_.out (by kernel_rfl)) (by decide) (fun K hK => ?_)
                                    have hs36 : w34.cell? ⟨gb165, 1, none⟩ = some (.string (a0.extract (x10_1 : Int).toNat ((wrap64 (x10_1 + t160)) : Int).toNat)) := (blk_cell BK165.out 1).trans rfl
                                    have hfs36 := blk_frozen BK165.out 1
                                    refine skip_ (w1 := ?_) (by rfl) rfl ?_ ?_
                                    rotate_left
                                    · go_simp
                                      rfl
                                    refine hK.out _ _ trivial (fun hHeld => ?_)
                                    clear hK K
                                    refine pure_ (i := 12) (N := some 106) (v := ?_) (a' := ?_) #[true, true, true, true, true, true, true, true, true, true, true, true, true, false, false] rfl rfl (any_of HT_.out (by kernel_rfl)) (fun _ _ _ h => h) (Or.inl ⟨by rfl, ?_⟩) ?_ ?_
                                    rotate_left
                                    · intro w'
                                      go_simp
                                      with_reducible rfl
                                    rotate_left
                                    · simp only [Act.put, List.setIfInBounds_toArray, List.set_cons_zero, List.set_cons_succ, i64_w, i32_w]
                                      rfl
                                    refine one_ (i := 13) (N := none) #[true, true, true, true, true, true, true, true, true, true, true, true, true, true, false] rfl rfl (one_of HT_.out (by kernel_rfl)) (by decide) (fun K hK => ?_)
                                    have hs37 : w34.cell? ⟨gb165, 2, none⟩ = some (.int .i64 0) := (blk_cell BK165.out 2).trans rfl
                                    have hfs37 := blk_frozen BK165.out 2
                                    refine skip_ (w1 := ?_) (by rfl) rfl ?_ ?_
                                    rotate_left
                                    · go_simp
                                      rfl
                                    refine hK.out _ _ trivial (fun hHeld => ?_)
                                    clear hK K
                                    refine pure_ (i := 14) (N := some 14) (v := ?_) (a' := ?_) #[true, true, true, true, true, true, true, true, true, true, true, true, true, true, true] rfl rfl (any_of HT_.out (by kernel_rfl)) (fun _ _ _ h => h) (Or.inl ⟨by rfl, ?_⟩) ?_ ?_
                                    rotate_left
                                    · intro w'
                                      go_simp
                                      with_reducible rfl
                                    rotate_left
                                    · simp only [Act.put, List.setIfInBounds_toArray, List.set_cons_zero, List.set_cons_succ, i64_w, i32_w]
                                      rfl
                                    refine done_ (done_of HT_.out (by kernel_rfl)) ?_
                                    try go_wp2_with (first | ((with_reducible refine gate_callee (f := 60) rfl ?_); refine goesL_ (some 112) rfl rfl Tryd.func60 (by kernel_rfl) rfl #[.string a0, .int .i64 (wrap64 (x10_1 + t166))] rfl (by (try simp only [List.map_toArray, List.map_cons, List.map_nil]); first | done | rfl | (simp only [List.length_drop, List.length_take]; rfl)) ?_; (with_reducible refine (intarsiaref01_at.calls kj7 a0 (wrap64 (x10_1 + t166)) t169 t170 _ A27.out).mono ?_); rintro e w' ⟨rfl, ⟨nd, rfl⟩⟩; refine ⟨_, rfl, ?_⟩) | (go_at_call 64; (with_reducible refine (intarsiaref01_Letter.calls t169 true _ A29.out).mono ?_); rintro e w' ⟨rfl, ⟨nd, rfl⟩⟩))
                                    refine bodyPost_ret (results_list (rs := [.tmp 2, .tmp 3, .tmp 4, .tmp 5]) rfl (by simp) (.tmp (.tmp (.tmp (.tmp .nil))))) rfl ?_
                                    exact ⟨_, by first | rfl | (simp [errW_none, errW_some] <;> rfl) | (simp [*, errW_none, errW_some] <;> rfl), by first | exact Kd.R_nil _ _ _ _ _ | exact Kd.N_nil _ _ _ _ _ | exact Kd.V_nil _ _ _ _ _ | exact Kd.Q_nil _ _ _ _ _ | exact Kd.S_nil _ _ _ _ _, by repeat (first | (with_reducible first | exact HB.out | apply below_alloc | apply pw_below_drewN | apply below_drew1 | refine below_set ?_ GE165.out) | exact HB.out)⟩
                                  · replace c30 := Bool.eq_false_iff.mpr c30
                                    subst c30
                                    have H1 : (if x6_1.length < 2932031007402 then (intarsiaref01_Read.l0 kj7 a0 (x6_1 ++ [(⟨2, a0.extract (x10_1 : Int).toNat ((wrap64 (x10_1 + t166)) : Int).toNat, t167, x7_1, x8_1⟩ : S89)]) x7_1 (wrap64 (x8_1 + t166)) x9_1 (wrap64 (x10_1 + ((a0.extract (x10_1 : Int).toNat ((wrap64 (x10_1 + t166)) : Int).toNat).size : Int)))) else (none)) = some (r1, r2, r3, r4) := by rw [if_neg (show ¬ (false = true) by decide)] at H; exact H
                                    clear H
                                    have H := H1
                                    clear H1
                                    by_cases c38 : x6_1.length < 2932031007402
                                    · rw [if_pos c38] at H
                                      have LMc38 := Aside0.mk c38
                                      clear c38
                                      obtain ⟨y172, hy172⟩ : ∃ y_ : List (S89), y_ = (x6_1 ++ [(⟨2, a0.extract (x10_1 : Int).toNat ((wrap64 (x10_1 + t166)) : Int).toNat, t167, x7_1, x8_1⟩ : S89)]) := ⟨_, rfl⟩
                                      replace H : (intarsiaref01_Read.l0 kj7 a0 y172 x7_1 (wrap64 (x8_1 + t166)) x9_1 (wrap64 (x10_1 + ((a0.extract (x10_1 : Int).toNat ((wrap64 (x10_1 + t166)) : Int).toNat).size : Int)))) = some (r1, r2, r3, r4) := by first | (rw [hy172]; with_reducible exact H) | (have H2_ := (Option.bind_some _ _).symm.trans H; rw [hy172]; with_reducible exact H2_) | (have H2_ := (Option.bind_some _ _).symm.trans H; with_reducible exact H2_) | with_reducible exact H | (rw [hy172]; exact H) | exact H
                                      have Ny172 := Aside0.mk hy172
                                      clear hy172
                                      have H' := Aside0.mk H
                                      clear H
                                      try go_wp2_with (first | ((with_reducible refine gate_dst (N := 13) rfl ?_); refine box_event ?hg (N := 13) ?hd (cs := #[.int .i64 0, .string (⟨#[]⟩ : ByteArray), .int .i64 0, .int .i64 0, .int .i64 0]) (t := 89) ?hr ?_; (case hd => rfl); (case hg => rfl); (case hr => first | (go_simp; done) | (go_simp; rfl)); intro gb165 hg w39 hbox hb; have n0_ := Aside0.mk (Kd.R_below (Kd.R_elderB (by (with_reducible repeat (first | apply Kd.R_alloc | apply Kd.R_drewN | apply Kd.R_drew)); exact HO_6.out) gb165 (Nat.le_of_eq hg.symm)) hb); have n1_ := Aside0.mk (below_step (by repeat (first | (with_reducible first | exact HB.out | apply below_alloc | apply pw_below_drewN | apply below_drew1) | exact HB.out)) hb); have n2_ := Aside0.mk (hbox); have n3_ := Aside0.mk ((by rw [hg]; exact (below_size (by repeat (first | (with_reducible first | exact HB.out | apply below_alloc | apply pw_below_drewN | apply below_drew1) | exact HB.out))) : w.heap.size ≤ gb165)); have n4_ := Aside0.mk ((by rw [hg]; exact (below_size (by repeat (first | (with_reducible first | exact HB.out | apply below_alloc | apply pw_below_drewN | apply below_drew1) | exact HB.out))) : w.heap.size ≤ gb165)); clear HO_6; clear HB; have HO_6 := n0_; have HB := n1_; have BK165 := n2_; have GW165 := n3_; have GE165 := n4_; clear n0_ n1_ n2_ n3_ n4_; clear hb hbox hg; have hcz40_0 : w39.cell? ⟨gb165, 0, none⟩ = some (.int .i64 0) := (blk_cell BK165.out 0).trans rfl; have hcz40_1 : w39.cell? ⟨gb165, 1, none⟩ = some (.string (⟨#[]⟩ : ByteArray)) := (blk_cell BK165.out 1).trans rfl; have hcz40_2 : w39.cell? ⟨gb165, 2, none⟩ = some (.int .i64 0) := (blk_cell BK165.out 2).trans rfl; have hcz40_3 : w39.cell? ⟨gb165, 3, none⟩ = some (.int .i64 0) := (blk_cell BK165.out 3).trans rfl; have hcz40_4 : w39.cell? ⟨gb165, 4, none⟩ = some (.int .i64 0) := (blk_cell BK165.out 4).trans rfl; have hfz40_0 := blk_frozen BK165.out 0; have hfz40_1 := blk_frozen BK165.out 1; have hfz40_2 := blk_frozen BK165.out 2; have hfz40_3 := blk_frozen BK165.out 3; have hfz40_4 := blk_frozen BK165.out 4) | ((with_reducible refine gate_callee (f := 62) rfl ?_); refine goesL_ (some 78) rfl rfl Tryd.func62 (by kernel_rfl) rfl #[.string a0, .int .i64 x10_1] rfl (by (try simp only [List.map_toArray, List.map_cons, List.map_nil]); first | done | rfl | (simp only [List.length_drop, List.length_take]; rfl)) ?_; (with_reducible refine (intarsiaref01_numbers.calls kj7 a0 x10_1 t166 _ A17.out).mono ?_); rintro e w' ⟨rfl, ⟨nd, rfl⟩⟩; refine ⟨_, rfl, ?_⟩) | ((with_reducible refine gate_callee (f := 63) rfl ?_); refine goesL_ (some 89) rfl rfl Tryd.func63 (by kernel_rfl) rfl #[.string (a0.extract (x10_1 : Int).toNat ((wrap64 (x10_1 + t166)) : Int).toNat)] rfl (by (try simp only [List.map_toArray, List.map_cons, List.map_nil]); first | done | rfl | (simp only [List.length_drop, List.length_take]; rfl)) ?_; (with_reducible refine (intarsiaref01_value.calls kj7 (a0.extract (x10_1 : Int).toNat ((wrap64 (x10_1 + t166)) : Int).toNat) t167 true _ A22.out).mono ?_); rintro e w' ⟨rfl, ⟨nd, rfl⟩⟩; refine ⟨_, rfl, ?_⟩))
                                      have n0_ : Aside0 (Kd.R k89 89 (((((w39.setCell ⟨gb165, 0, none⟩ (.int .i64 3)).setCell ⟨gb165, 1, none⟩ (.string (a0.extract (x10_1 : Int).toNat ((wrap64 (x10_1 + t160)) : Int).toNat))).setCell ⟨gb165, 2, none⟩ (.int .i64 0)).setCell ⟨gb165, 3, none⟩ (.int .i64 x7_1)).setCell ⟨gb165, 4, none⟩ (.int .i64 x8_1)) w.heap.size (fun k_ => k_ ≠ gb165) u6 x6_1) := ⟨by (with_reducible repeat (first | apply Kd.R_alloc | apply Kd.R_drewN | apply Kd.R_drew)); exact Kd.R_mono (Kd.R_far (p := ⟨gb165, 4, none⟩) (Kd.R_far (p := ⟨gb165, 3, none⟩) (Kd.R_far (p := ⟨gb165, 2, none⟩) (Kd.R_far (p := ⟨gb165, 1, none⟩) (Kd.R_far (p := ⟨gb165, 0, none⟩) (Kd.R_mono HO_6.out (fun k_ hk => (⟨hk, hk.2⟩ : _ ∧ k_ ≠ gb165))) (fun _ hk => hk.2) (.int .i64 3)) (fun _ hk => hk.2) (.string (a0.extract (x10_1 : Int).toNat ((wrap64 (x10_1 + t160)) : Int).toNat))) (fun _ hk => hk.2) (.int .i64 0)) (fun _ hk => hk.2) (.int .i64 x7_1)) (fun _ hk => hk.2) (.int .i64 x8_1)) (fun _ hk => hk.1.2)⟩
                                      have n1_ : Aside0 ((((((w39.setCell ⟨gb165, 0, none⟩ (.int .i64 3)).setCell ⟨gb165, 1, none⟩ (.string (a0.extract (x10_1 : Int).toNat ((wrap64 (x10_1 + t160)) : Int).toNat))).setCell ⟨gb165, 2, none⟩ (.int .i64 0)).setCell ⟨gb165, 3, none⟩ (.int .i64 x7_1)).setCell ⟨gb165, 4, none⟩ (.int .i64 x8_1)).heap[gb165]? = some (.cells #[.int .i64 3, .string (a0.extract (x10_1 : Int).toNat ((wrap64 (x10_1 + t160)) : Int).toNat), .int .i64 0, .int .i64 x7_1, .int .i64 x8_1] 89 (0, 0))) := ⟨by (with_reducible repeat (first | refine blk_drewN ?_ _ | refine blk_drew ?_ | refine blk_alloc ?_ _)); refine blk_put (cs := #[.int .i64 3, .string (a0.extract (x10_1 : Int).toNat ((wrap64 (x10_1 + t160)) : Int).toNat), .int .i64 0, .int .i64 x7_1, .int .i64 0]) ?_ 4 _ rfl; (with_reducible repeat (first | refine blk_drewN ?_ _ | refine blk_drew ?_ | refine blk_alloc ?_ _)); refine blk_put (cs := #[.int .i64 3, .string (a0.extract (x10_1 : Int).toNat ((wrap64 (x10_1 + t160)) : Int).toNat), .int .i64 0, .int .i64 0, .int .i64 0]) ?_ 3 _ rfl; (with_reducible repeat (first | refine blk_drewN ?_ _ | refine blk_drew ?_ | refine blk_alloc ?_ _)); refine blk_put (cs := #[.int .i64 3, .string (a0.extract (x10_1 : Int).toNat ((wrap64 (x10_1 + t160)) : Int).toNat), .int .i64 0, .int .i64 0, .int .i64 0]) ?_ 2 _ rfl; (with_reducible repeat (first | refine blk_drewN ?_ _ | refine blk_drew ?_ | refine blk_alloc ?_ _)); refine blk_put (cs := #[.int .i64 3, .string (⟨#[]⟩ : ByteArray), .int .i64 0, .int .i64 0, .int .i64 0]) ?_ 1 _ rfl; (with_reducible repeat (first | refine blk_drewN ?_ _ | refine blk_drew ?_ | refine blk_alloc ?_ _)); refine blk_put (cs := #[.int .i64 0, .string (⟨#[]⟩ : ByteArray), .int .i64 0, .int .i64 0, .int .i64 0]) ?_ 0 _ rfl; (with_reducible repeat (first | refine blk_drewN ?_ _ | refine blk_drew ?_ | refine blk_alloc ?_ _)); exact BK165.out⟩
                                      have n2_ : Aside0 (Below w.heap.size w (((((w39.setCell ⟨gb165, 0, none⟩ (.int .i64 3)).setCell ⟨gb165, 1, none⟩ (.string (a0.extract (x10_1 : Int).toNat ((wrap64 (x10_1 + t160)) : Int).toNat))).setCell ⟨gb165, 2, none⟩ (.int .i64 0)).setCell ⟨gb165, 3, none⟩ (.int .i64 x7_1)).setCell ⟨gb165, 4, none⟩ (.int .i64 x8_1))) := ⟨by repeat (first | (with_reducible first | exact HB.out | apply below_alloc | apply pw_below_drewN | apply below_drew1 | refine below_set ?_ GE165.out) | exact HB.out)⟩
                                      (try clear HO_6)
                                      (try clear BK165)
                                      (try clear HB)
                                      generalize (((((w39.setCell ⟨gb165, 0, none⟩ (.int .i64 3)).setCell ⟨gb165, 1, none⟩ (.string (a0.extract (x10_1 : Int).toNat ((wrap64 (x10_1 + t160)) : Int).toNat))).setCell ⟨gb165, 2, none⟩ (.int .i64 0)).setCell ⟨gb165, 3, none⟩ (.int .i64 x7_1)).setCell ⟨gb165, 4, none⟩ (.int .i64 x8_1)) = w41 at n0_ n1_ n2_ ⊢
                                      have HO_6 := n0_
                                      have BK165 := n1_
                                      have HB := n2_
                                      clear n0_ n1_ n2_
                                      (try (rw [drewN_self w41]; generalize hq_ : World.drewN w41 _ = w41; have n0_ : Aside0 (Kd.R k89 89 w41 w.heap.size (fun k_ => k_ ≠ gb165) u6 x6_1) := ⟨by rw [← hq_]; exact (by (with_reducible repeat (first | apply Kd.R_alloc | apply Kd.R_drewN | apply Kd.R_drew)); exact HO_6.out)⟩; have n1_ : Aside0 (w41.heap[gb165]? = some (.cells #[.int .i64 3, .string (a0.extract (x10_1 : Int).toNat ((wrap64 (x10_1 + t160)) : Int).toNat), .int .i64 0, .int .i64 x7_1, .int .i64 x8_1] 89 (0, 0))) := ⟨by rw [← hq_]; exact (by (with_reducible repeat (first | refine blk_drewN ?_ _ | refine blk_drew ?_ | refine blk_alloc ?_ _)); exact BK165.out)⟩; have n2_ : Aside0 (Below w.heap.size w w41) := ⟨by rw [← hq_]; exact (by repeat (first | (with_reducible first | exact HB.out | apply below_alloc | apply pw_below_drewN | apply below_drew1 | refine below_set ?_ GE165.out) | exact HB.out))⟩; clear HO_6 BK165 HB hq_; have HO_6 := n0_; have BK165 := n1_; have HB := n2_; clear n0_ n1_ n2_))
                                      have n0_ := Aside0.mk (Kd.R_drew HO_6.out)
                                      have n1_ := Aside0.mk (blk_drew BK165.out)
                                      have n2_ := Aside0.mk (below_drew1 HB.out)
                                      clear HO_6
                                      clear BK165
                                      clear HB
                                      have HO_6 := n0_
                                      have BK165 := n1_
                                      have HB := n2_
                                      clear n0_ n1_ n2_
                                      refine start_ (n := 15) (S := fun w' => True) (ds := []) #[false, false, false, false, false, false, false, false, false, false, false, false, false, false, false] (by kernel_rfl) rfl rfl trivial (fun hHeld => ?_); refine with_tabW intarsiaref01_Read.tab26 intarsiaref01_Read.bits26 (fun HT_ HW_ => ?_)
                                      generalize w41.drew = w42 at HO_6 BK165 HB hHeld ⊢
                                      refine pure_ (i := 0) (N := some 96) (v := ?_) (a' := ?_) #[true, false, false, false, false, false, false, false, false, false, false, false, false, false, false] rfl rfl (any_of HT_.out (by kernel_rfl)) (fun _ _ _ h => h) (Or.inl ⟨by rfl, ?_⟩) ?_ ?_
                                      rotate_left
                                      · intro w'
                                        go_simp
                                        with_reducible rfl
                                      rotate_left
                                      · simp only [Act.put, List.setIfInBounds_toArray, List.set_cons_zero, List.set_cons_succ, i64_w, i32_w]
                                        rfl
                                      refine pure_ (i := 1) (N := some 97) (v := ?_) (a' := ?_) #[true, true, false, false, false, false, false, false, false, false, false, false, false, false, false] rfl rfl (any_of HT_.out (by kernel_rfl)) (fun _ _ _ h => h) (Or.inl ⟨by rfl, ?_⟩) ?_ ?_
                                      rotate_left
                                      · intro w'
                                        go_simp
                                        with_reducible rfl
                                      rotate_left
                                      · simp only [Act.put, List.setIfInBounds_toArray, List.set_cons_zero, List.set_cons_succ, i64_w, i32_w]
                                        rfl
                                      refine pure_ (i := 2) (N := some 98) (v := ?_) (a' := ?_) #[true, true, true, false, false, false, false, false, false, false, false, false, false, false, false] rfl rfl (any_of HT_.out (by kernel_rfl)) (fun _ _ _ h => h) (Or.inl ⟨by rfl, ?_⟩) ?_ ?_
                                      rotate_left
                                      · intro w'
                                        go_simp
                                        with_reducible rfl
                                      rotate_left
                                      · simp only [Act.put, List.setIfInBounds_toArray, List.set_cons_zero, List.set_cons_succ, i64_w, i32_w]
                                        rfl
                                      refine pure_ (i := 3) (N := some 99) (v := ?_) (a' := ?_) #[true, true, true, true, false, false, false, false, false, false, false, false, false, false, false] rfl rfl (any_of HT_.out (by kernel_rfl)) (fun _ _ _ h => h) (Or.inl ⟨by rfl, ?_⟩) ?_ ?_
                                      rotate_left
                                      · intro w'
                                        go_simp
                                        with_reducible rfl
                                      rotate_left
                                      · simp only [Act.put, List.setIfInBounds_toArray, List.set_cons_zero, List.set_cons_succ, i64_w, i32_w]
                                        rfl
                                      refine pure_ (i := 4) (N := some 100) (v := ?_) (a' := ?_) #[true, true, true, true, true, false, false, false, false, false, false, false, false, false, false] rfl rfl (any_of HT_.out (by kernel_rfl)) (fun _ _ _ h => h) (Or.inl ⟨by rfl, ?_⟩) ?_ ?_
                                      rotate_left
                                      · intro w'
                                        go_simp
                                        with_reducible rfl
                                      rotate_left
                                      · simp only [Act.put, List.setIfInBounds_toArray, List.set_cons_zero, List.set_cons_succ, i64_w, i32_w]
                                        rfl
                                      refine pure_ (i := 5) (N := some 101) (v := ?_) (a' := ?_) #[true, true, true, true, true, true, false, false, false, false, false, false, false, false, false] rfl rfl (any_of HT_.out (by kernel_rfl)) (fun _ _ _ h => h) (Or.inl ⟨by rfl, ?_⟩) ?_ ?_
                                      rotate_left
                                      · intro w'
                                        go_simp
                                        with_reducible rfl
                                      rotate_left
                                      · simp only [Act.put, List.setIfInBounds_toArray, List.set_cons_zero, List.set_cons_succ, i64_w, i32_w]
                                        rfl
                                      refine pure_ (i := 6) (N := some 102) (v := ?_) (a' := ?_) #[true, true, true, true, true, true, true, false, false, false, false, false, false, false, false] rfl rfl (any_of HT_.out (by kernel_rfl)) (fun _ _ _ h => h) (Or.inl ⟨by rfl, ?_⟩) ?_ ?_
                                      rotate_left
                                      · intro w'
                                        go_simp
                                        with_reducible rfl
                                      rotate_left
                                      · simp only [Act.put, List.setIfInBounds_toArray, List.set_cons_zero, List.set_cons_succ, i64_w, i32_w]
                                        rfl
                                      refine pure_ (i := 7) (N := some 103) (v := ?_) (a' := ?_) #[true, true, true, true, true, true, true, true, false, false, false, false, false, false, false] rfl rfl (any_of HT_.out (by kernel_rfl)) (fun _ _ _ h => h) (Or.inl ⟨by rfl, ?_⟩) ?_ ?_
                                      rotate_left
                                      · intro w'
                                        go_simp
                                        with_reducible rfl
                                      rotate_left
                                      · simp only [Act.put, List.setIfInBounds_toArray, List.set_cons_zero, List.set_cons_succ, i64_w, i32_w]
                                        rfl
                                      refine pure_ (i := 8) (N := some 104) (v := ?_) (a' := ?_) #[true, true, true, true, true, true, true, true, true, false, false, false, false, false, false] rfl rfl (any_of HT_.out (by kernel_rfl)) (fun _ _ _ h => h) (Or.inl ⟨by rfl, ?_⟩) ?_ ?_
                                      rotate_left
                                      · intro w'
                                        go_simp
                                        with_reducible rfl
                                      rotate_left
                                      · simp only [Act.put, List.setIfInBounds_toArray, List.set_cons_zero, List.set_cons_succ, i64_w, i32_w]
                                        rfl
                                      refine one_ (i := 9) (N := none) #[true, true, true, true, true, true, true, true, true, true, false, false, false, false, false] rfl rfl (one_of HT_.out (by kernel_rfl)) (by decide) (fun K hK => ?_)
                                      have hs43 : w42.cell? ⟨gb165, 0, none⟩ = some (.int .i64 3) := (blk_cell BK165.out 0).trans rfl
                                      have hfs43 := blk_frozen BK165.out 0
                                      refine skip_ (w1 := ?_) (by rfl) rfl ?_ ?_
                                      rotate_left
                                      · go_simp
                                        rfl
                                      refine hK.out _ _ trivial (fun hHeld => ?_)
                                      clear hK K
                                      refine pure_ (i := 10) (N := some 105) (v := ?_) (a' := ?_) #[true, true, true, true, true, true, true, true, true, true, true, false, false, false, false] rfl rfl (any_of HT_.out (by kernel_rfl)) (fun _ _ _ h => h) (Or.inl ⟨by rfl, ?_⟩) ?_ ?_
                                      rotate_left
                                      · intro w'
                                        go_simp
                                        with_reducible rfl
                                      rotate_left
                                      · simp only [Act.put, List.setIfInBounds_toArray, List.set_cons_zero, List.set_cons_succ, i64_w, i32_w]
                                        rfl
                                      refine one_ (i := 11) (N := none) #[true, true, true, true, true, true, true, true, true, true, true, true, false, false, false] rfl rfl (one_of HT_.out (by kernel_rfl)) (by decide) (fun K hK => ?_)
                                      have hs44 : w42.cell? ⟨gb165, 1, none⟩ = some (.string (a0.extract (x10_1 : Int).toNat ((wrap64 (x10_1 + t160)) : Int).toNat)) := (blk_cell BK165.out 1).trans rfl
                                      have hfs44 := blk_frozen BK165.out 1
                                      refine skip_ (w1 := ?_) (by rfl) rfl ?_ ?_
                                      rotate_left
                                      · go_simp
                                        rfl
                                      refine hK.out _ _ trivial (fun hHeld => ?_)
                                      clear hK K
                                      refine pure_ (i := 12) (N := some 106) (v := ?_) (a' := ?_) #[true, true, true, true, true, true, true, true, true, true, true, true, true, false, false] rfl rfl (any_of HT_.out (by kernel_rfl)) (fun _ _ _ h => h) (Or.inl ⟨by rfl, ?_⟩) ?_ ?_
                                      rotate_left
                                      · intro w'
                                        go_simp
                                        with_reducible rfl
                                      rotate_left
                                      · simp only [Act.put, List.setIfInBounds_toArray, List.set_cons_zero, List.set_cons_succ, i64_w, i32_w]
                                        rfl
                                      refine one_ (i := 13) (N := none) #[true, true, true, true, true, true, true, true, true, true, true, true, true, true, false] rfl rfl (one_of HT_.out (by kernel_rfl)) (by decide) (fun K hK => ?_)
                                      have hs45 : w42.cell? ⟨gb165, 2, none⟩ = some (.int .i64 0) := (blk_cell BK165.out 2).trans rfl
                                      have hfs45 := blk_frozen BK165.out 2
                                      refine skip_ (w1 := ?_) (by rfl) rfl ?_ ?_
                                      rotate_left
                                      · go_simp
                                        rfl
                                      refine hK.out _ _ trivial (fun hHeld => ?_)
                                      clear hK K
                                      refine pure_ (i := 14) (N := some 14) (v := ?_) (a' := ?_) #[true, true, true, true, true, true, true, true, true, true, true, true, true, true, true] rfl rfl (any_of HT_.out (by kernel_rfl)) (fun _ _ _ h => h) (Or.inl ⟨by rfl, ?_⟩) ?_ ?_
                                      rotate_left
                                      · intro w'
                                        go_simp
                                        with_reducible rfl
                                      rotate_left
                                      · simp only [Act.put, List.setIfInBounds_toArray, List.set_cons_zero, List.set_cons_succ, i64_w, i32_w]
                                        rfl
                                      refine done_ (done_of HT_.out (by kernel_rfl)) ?_
                                      try go_wp2_with (first | ((with_reducible refine gate_callee (f := 60) rfl ?_); refine goesL_ (some 112) rfl rfl Tryd.func60 (by kernel_rfl) rfl #[.string a0, .int .i64 (wrap64 (x10_1 + t166))] rfl (by (try simp only [List.map_toArray, List.map_cons, List.map_nil]); first | done | rfl | (simp only [List.length_drop, List.length_take]; rfl)) ?_; (with_reducible refine (intarsiaref01_at.calls kj7 a0 (wrap64 (x10_1 + t166)) t169 t170 _ A27.out).mono ?_); rintro e w' ⟨rfl, ⟨nd, rfl⟩⟩; refine ⟨_, rfl, ?_⟩) | (go_at_call 64; (with_reducible refine (intarsiaref01_Letter.calls t169 false _ A29.out).mono ?_); rintro e w' ⟨rfl, ⟨nd, rfl⟩⟩; have hcz46_0 : w42.cell? ⟨gb165, 0, none⟩ = some (.int .i64 3) := (blk_cell BK165.out 0).trans rfl; have hcz46_1 : w42.cell? ⟨gb165, 1, none⟩ = some (.string (a0.extract (x10_1 : Int).toNat ((wrap64 (x10_1 + t160)) : Int).toNat)) := (blk_cell BK165.out 1).trans rfl; have hcz46_2 : w42.cell? ⟨gb165, 2, none⟩ = some (.int .i64 0) := (blk_cell BK165.out 2).trans rfl; have hcz46_3 : w42.cell? ⟨gb165, 3, none⟩ = some (.int .i64 x7_1) := (blk_cell BK165.out 3).trans rfl; have hcz46_4 : w42.cell? ⟨gb165, 4, none⟩ = some (.int .i64 x8_1) := (blk_cell BK165.out 4).trans rfl; have hfz46_0 := blk_frozen BK165.out 0; have hfz46_1 := blk_frozen BK165.out 1; have hfz46_2 := blk_frozen BK165.out 2; have hfz46_3 := blk_frozen BK165.out 3; have hfz46_4 := blk_frozen BK165.out 4) | ((with_reducible refine gate_builtin (b := .append) (xs := #[.tmp 153, .tmp 155]) rfl ?_); at_builtin; refine Kd.R_append k89 (w0 := w) w.heap.size rfl (.tmp 153) (.tmp 155) 83 89 (.agg #[(.int .i64 0), (.string ⟨#[]⟩), (.int .i64 0), (.int .i64 0), (.int .i64 0)]) 48 rfl Tryd.underlying83 info89 rfl (by decide) (by omega) u6 x6_1 (⟨2, a0.extract (x10_1 : Int).toNat ((wrap64 (x10_1 + t166)) : Int).toNat, t167, x7_1, x8_1⟩ : S89) [.int .i64 2, .string (a0.extract (x10_1 : Int).toNat ((wrap64 (x10_1 + t166)) : Int).toNat), .int .i64 t167, .int .i64 x7_1, .int .i64 x8_1] (fun k_ => k_ ≠ gb165) (fun _ => False) rfl (by first | (go_simp; done) | (go_simp; rfl)) ?aP (fun _ hk => hk.elim) ?aF ?aO ?aB ?aS ?aL ?_; (case aP => exact k89_mkM _ _ _ (⟨2, a0.extract (x10_1 : Int).toNat ((wrap64 (x10_1 + t166)) : Int).toNat, t167, x7_1, x8_1⟩ : S89)); (case aB => exact (by repeat (first | (with_reducible first | exact HB.out | apply below_alloc | apply pw_below_drewN | apply below_drew1 | refine below_set ?_ GE165.out) | exact HB.out))); (case aF => exact (fun k_ hk => Kd.freshB (g := gb165) (o := .cells #[.int .i64 2, .string (a0.extract (x10_1 : Int).toNat ((wrap64 (x10_1 + t166)) : Int).toNat), .int .i64 t167, .int .i64 x7_1, .int .i64 x8_1] 89 (0, 0)) (by (with_reducible repeat (first | refine blk_drewN ?_ _ | refine blk_drew ?_ | refine blk_alloc ?_ _)); refine blk_put (cs := #[.int .i64 2, .string (a0.extract (x10_1 : Int).toNat ((wrap64 (x10_1 + t166)) : Int).toNat), .int .i64 0, .int .i64 x7_1, .int .i64 x8_1]) ?_ 2 _ rfl; (with_reducible repeat (first | refine blk_drewN ?_ _ | refine blk_drew ?_ | refine blk_alloc ?_ _)); refine blk_put (cs := #[.int .i64 2, .string (a0.extract (x10_1 : Int).toNat ((wrap64 (x10_1 + t160)) : Int).toNat), .int .i64 0, .int .i64 x7_1, .int .i64 x8_1]) ?_ 1 _ rfl; (with_reducible repeat (first | refine blk_drewN ?_ _ | refine blk_drew ?_ | refine blk_alloc ?_ _)); refine blk_put (cs := #[.int .i64 3, .string (a0.extract (x10_1 : Int).toNat ((wrap64 (x10_1 + t160)) : Int).toNat), .int .i64 0, .int .i64 x7_1, .int .i64 x8_1]) ?_ 0 _ rfl; (with_reducible repeat (first | refine blk_drewN ?_ _ | refine blk_drew ?_ | refine blk_alloc ?_ _)); exact BK165.out) k_ hk)); (case aO => exact (by (with_reducible repeat (first | apply Kd.R_alloc | apply Kd.R_drewN | apply Kd.R_drew)); exact Kd.R_mono (Kd.R_far (p := ⟨gb165, 2, none⟩) (Kd.R_far (p := ⟨gb165, 1, none⟩) (Kd.R_far (p := ⟨gb165, 0, none⟩) (Kd.R_mono HO_6.out (fun k_ hk => (⟨hk, hk⟩ : _ ∧ k_ ≠ gb165))) (fun _ hk => hk.2) (.int .i64 2)) (fun _ hk => hk.2) (.string (a0.extract (x10_1 : Int).toNat ((wrap64 (x10_1 + t166)) : Int).toNat))) (fun _ hk => hk.2) (.int .i64 t167)) (fun _ hk => hk.1))); (case aS => exact (below_size (by repeat (first | (with_reducible first | exact HB.out | apply below_alloc | apply pw_below_drewN | apply below_drew1 | refine below_set ?_ GE165.out) | exact HB.out)))); (case aL => have := LMc38.out; omega); intro v173 w47 ho hb hg hat; rw [← Ny172.out] at ho; have n0_ := Aside0.mk (blk_grown (g := gb165) (o := .cells #[.int .i64 2, .string (a0.extract (x10_1 : Int).toNat ((wrap64 (x10_1 + t166)) : Int).toNat), .int .i64 t167, .int .i64 x7_1, .int .i64 x8_1] 89 (0, 0)) (by (with_reducible repeat (first | refine blk_drewN ?_ _ | refine blk_drew ?_ | refine blk_alloc ?_ _)); refine blk_put (cs := #[.int .i64 2, .string (a0.extract (x10_1 : Int).toNat ((wrap64 (x10_1 + t166)) : Int).toNat), .int .i64 0, .int .i64 x7_1, .int .i64 x8_1]) ?_ 2 _ rfl; (with_reducible repeat (first | refine blk_drewN ?_ _ | refine blk_drew ?_ | refine blk_alloc ?_ _)); refine blk_put (cs := #[.int .i64 2, .string (a0.extract (x10_1 : Int).toNat ((wrap64 (x10_1 + t160)) : Int).toNat), .int .i64 0, .int .i64 x7_1, .int .i64 x8_1]) ?_ 1 _ rfl; (with_reducible repeat (first | refine blk_drewN ?_ _ | refine blk_drew ?_ | refine blk_alloc ?_ _)); refine blk_put (cs := #[.int .i64 3, .string (a0.extract (x10_1 : Int).toNat ((wrap64 (x10_1 + t160)) : Int).toNat), .int .i64 0, .int .i64 x7_1, .int .i64 x8_1]) ?_ 0 _ rfl; (with_reducible repeat (first | refine blk_drewN ?_ _ | refine blk_drew ?_ | refine blk_alloc ?_ _)); exact BK165.out) hg (Kd.R_away HO_6.out (fun _ hk => hk))); have n1_ := Aside0.mk (hb); have n2_ := Aside0.mk (ho); clear BK165; clear HB; clear HO_6; have BK165 := n0_; have HB := n1_; have HO174 := n2_; clear n0_ n1_ n2_; clear ho hb hg hat; have hcz48_0 : w47.cell? ⟨gb165, 0, none⟩ = some (.int .i64 2) := (blk_cell BK165.out 0).trans rfl; have hcz48_1 : w47.cell? ⟨gb165, 1, none⟩ = some (.string (a0.extract (x10_1 : Int).toNat ((wrap64 (x10_1 + t166)) : Int).toNat)) := (blk_cell BK165.out 1).trans rfl; have hcz48_2 : w47.cell? ⟨gb165, 2, none⟩ = some (.int .i64 t167) := (blk_cell BK165.out 2).trans rfl; have hcz48_3 : w47.cell? ⟨gb165, 3, none⟩ = some (.int .i64 x7_1) := (blk_cell BK165.out 3).trans rfl; have hcz48_4 : w47.cell? ⟨gb165, 4, none⟩ = some (.int .i64 x8_1) := (blk_cell BK165.out 4).trans rfl; have hfz48_0 := blk_frozen BK165.out 0; have hfz48_1 := blk_frozen BK165.out 1; have hfz48_2 := blk_frozen BK165.out 2; have hfz48_3 := blk_frozen BK165.out 3; have hfz48_4 := blk_frozen BK165.out 4))
                                      go_roundg kj7
                                      case measure => have := HK1.out; have := HJ7.out; omega
                                      case rel => exact ⟨(y172), (x7_1), (wrap64 (x8_1 + t166)), (x9_1), (wrap64 (x10_1 + ((a0.extract (x10_1 : Int).toNat ((wrap64 (x10_1 + t166)) : Int).toNat).size : Int))), (by first | rfl | (simp; done) | (simp [*]; done)), (by first | rfl | (simp; done) | (simp [*]; done)), (by first | rfl | (simp; done) | (simp [*]; done)), (by first | rfl | (simp; done) | (simp [*]; done)), H', ⟨by have := HK1.out; have := HJ7.out; omega⟩, ⟨by (with_reducible repeat (first | apply Kd.R_alloc | apply Kd.R_drewN | apply Kd.R_drew)); exact Kd.R_mono HO174.out (fun _ hk => trivial)⟩, ⟨by repeat (first | (with_reducible first | exact HB.out | apply below_alloc | apply pw_below_drewN | apply below_drew1 | refine below_set ?_ GE165.out) | exact HB.out)⟩⟩
                                    · rw [if_neg c38] at H
                                      exact absurd H (by simp)
                                · rw [if_neg c28] at H
                                  have c28b0 : decide (0 < t170) = false := decide_eq_false c28
                                  clear c28
                                  by_cases c49 : x6_1.length < 2932031007402
                                  · rw [if_pos c49] at H
                                    have LMc49 := Aside0.mk c49
                                    clear c49
                                    obtain ⟨y175, hy175⟩ : ∃ y_ : List (S89), y_ = (x6_1 ++ [(⟨2, a0.extract (x10_1 : Int).toNat ((wrap64 (x10_1 + t166)) : Int).toNat, t167, x7_1, x8_1⟩ : S89)]) := ⟨_, rfl⟩
                                    replace H : (intarsiaref01_Read.l0 kj7 a0 y175 x7_1 (wrap64 (x8_1 + t166)) x9_1 (wrap64 (x10_1 + ((a0.extract (x10_1 : Int).toNat ((wrap64 (x10_1 + t166)) : Int).toNat).size : Int)))) = some (r1, r2, r3, r4) := by first | (rw [hy175]; with_reducible exact H) | (have H2_ := (Option.bind_some _ _).symm.trans H; rw [hy175]; with_reducible exact H2_) | (have H2_ := (Option.bind_some _ _).symm.trans H; with_reducible exact H2_) | with_reducible exact H | (rw [hy175]; exact H) | exact H
                                    have Ny175 := Aside0.mk hy175
                                    clear hy175
                                    have H' := Aside0.mk H
                                    clear H
                                    try go_wp2_with (first | ((with_reducible refine gate_dst (N := 13) rfl ?_); refine box_event ?hg (N := 13) ?hd (cs := #[.int .i64 0, .string (⟨#[]⟩ : ByteArray), .int .i64 0, .int .i64 0, .int .i64 0]) (t := 89) ?hr ?_; (case hd => rfl); (case hg => rfl); (case hr => first | (go_simp; done) | (go_simp; rfl)); intro gb165 hg w50 hbox hb; have n0_ := Aside0.mk (Kd.R_below (Kd.R_elderB (by (with_reducible repeat (first | apply Kd.R_alloc | apply Kd.R_drewN | apply Kd.R_drew)); exact HO_6.out) gb165 (Nat.le_of_eq hg.symm)) hb); have n1_ := Aside0.mk (below_step (by repeat (first | (with_reducible first | exact HB.out | apply below_alloc | apply pw_below_drewN | apply below_drew1) | exact HB.out)) hb); have n2_ := Aside0.mk (hbox); have n3_ := Aside0.mk ((by rw [hg]; exact (below_size (by repeat (first | (with_reducible first | exact HB.out | apply below_alloc | apply pw_below_drewN | apply below_drew1) | exact HB.out))) : w.heap.size ≤ gb165)); have n4_ := Aside0.mk ((by rw [hg]; exact (below_size (by repeat (first | (with_reducible first | exact HB.out | apply below_alloc | apply pw_below_drewN | apply below_drew1) | exact HB.out))) : w.heap.size ≤ gb165)); clear HO_6; clear HB; have HO_6 := n0_; have HB := n1_; have BK165 := n2_; have GW165 := n3_; have GE165 := n4_; clear n0_ n1_ n2_ n3_ n4_; clear hb hbox hg; have hcz51_0 : w50.cell? ⟨gb165, 0, none⟩ = some (.int .i64 0) := (blk_cell BK165.out 0).trans rfl; have hcz51_1 : w50.cell? ⟨gb165, 1, none⟩ = some (.string (⟨#[]⟩ : ByteArray)) := (blk_cell BK165.out 1).trans rfl; have hcz51_2 : w50.cell? ⟨gb165, 2, none⟩ = some (.int .i64 0) := (blk_cell BK165.out 2).trans rfl; have hcz51_3 : w50.cell? ⟨gb165, 3, none⟩ = some (.int .i64 0) := (blk_cell BK165.out 3).trans rfl; have hcz51_4 : w50.cell? ⟨gb165, 4, none⟩ = some (.int .i64 0) := (blk_cell BK165.out 4).trans rfl; have hfz51_0 := blk_frozen BK165.out 0; have hfz51_1 := blk_frozen BK165.out 1; have hfz51_2 := blk_frozen BK165.out 2; have hfz51_3 := blk_frozen BK165.out 3; have hfz51_4 := blk_frozen BK165.out 4) | ((with_reducible refine gate_callee (f := 62) rfl ?_); refine goesL_ (some 78) rfl rfl Tryd.func62 (by kernel_rfl) rfl #[.string a0, .int .i64 x10_1] rfl (by (try simp only [List.map_toArray, List.map_cons, List.map_nil]); first | done | rfl | (simp only [List.length_drop, List.length_take]; rfl)) ?_; (with_reducible refine (intarsiaref01_numbers.calls kj7 a0 x10_1 t166 _ A17.out).mono ?_); rintro e w' ⟨rfl, ⟨nd, rfl⟩⟩; refine ⟨_, rfl, ?_⟩) | ((with_reducible refine gate_callee (f := 63) rfl ?_); refine goesL_ (some 89) rfl rfl Tryd.func63 (by kernel_rfl) rfl #[.string (a0.extract (x10_1 : Int).toNat ((wrap64 (x10_1 + t166)) : Int).toNat)] rfl (by (try simp only [List.map_toArray, List.map_cons, List.map_nil]); first | done | rfl | (simp only [List.length_drop, List.length_take]; rfl)) ?_; (with_reducible refine (intarsiaref01_value.calls kj7 (a0.extract (x10_1 : Int).toNat ((wrap64 (x10_1 + t166)) : Int).toNat) t167 true _ A22.out).mono ?_); rintro e w' ⟨rfl, ⟨nd, rfl⟩⟩; refine ⟨_, rfl, ?_⟩))
                                    have n0_ : Aside0 (Kd.R k89 89 (((((w50.setCell ⟨gb165, 0, none⟩ (.int .i64 3)).setCell ⟨gb165, 1, none⟩ (.string (a0.extract (x10_1 : Int).toNat ((wrap64 (x10_1 + t160)) : Int).toNat))).setCell ⟨gb165, 2, none⟩ (.int .i64 0)).setCell ⟨gb165, 3, none⟩ (.int .i64 x7_1)).setCell ⟨gb165, 4, none⟩ (.int .i64 x8_1)) w.heap.size (fun k_ => k_ ≠ gb165) u6 x6_1) := ⟨by (with_reducible repeat (first | apply Kd.R_alloc | apply Kd.R_drewN | apply Kd.R_drew)); exact Kd.R_mono (Kd.R_far (p := ⟨gb165, 4, none⟩) (Kd.R_far (p := ⟨gb165, 3, none⟩) (Kd.R_far (p := ⟨gb165, 2, none⟩) (Kd.R_far (p := ⟨gb165, 1, none⟩) (Kd.R_far (p := ⟨gb165, 0, none⟩) (Kd.R_mono HO_6.out (fun k_ hk => (⟨hk, hk.2⟩ : _ ∧ k_ ≠ gb165))) (fun _ hk => hk.2) (.int .i64 3)) (fun _ hk => hk.2) (.string (a0.extract (x10_1 : Int).toNat ((wrap64 (x10_1 + t160)) : Int).toNat))) (fun _ hk => hk.2) (.int .i64 0)) (fun _ hk => hk.2) (.int .i64 x7_1)) (fun _ hk => hk.2) (.int .i64 x8_1)) (fun _ hk => hk.1.2)⟩
                                    have n1_ : Aside0 ((((((w50.setCell ⟨gb165, 0, none⟩ (.int .i64 3)).setCell ⟨gb165, 1, none⟩ (.string (a0.extract (x10_1 : Int).toNat ((wrap64 (x10_1 + t160)) : Int).toNat))).setCell ⟨gb165, 2, none⟩ (.int .i64 0)).setCell ⟨gb165, 3, none⟩ (.int .i64 x7_1)).setCell ⟨gb165, 4, none⟩ (.int .i64 x8_1)).heap[gb165]? = some (.cells #[.int .i64 3, .string (a0.extract (x10_1 : Int).toNat ((wrap64 (x10_1 + t160)) : Int).toNat), .int .i64 0, .int .i64 x7_1, .int .i64 x8_1] 89 (0, 0))) := ⟨by (with_reducible repeat (first | refine blk_drewN ?_ _ | refine blk_drew ?_ | refine blk_alloc ?_ _)); refine blk_put (cs := #[.int .i64 3, .string (a0.extract (x10_1 : Int).toNat ((wrap64 (x10_1 + t160)) : Int).toNat), .int .i64 0, .int .i64 x7_1, .int .i64 0]) ?_ 4 _ rfl; (with_reducible repeat (first | refine blk_drewN ?_ _ | refine blk_drew ?_ | refine blk_alloc ?_ _)); refine blk_put (cs := #[.int .i64 3, .string (a0.extract (x10_1 : Int).toNat ((wrap64 (x10_1 + t160)) : Int).toNat), .int .i64 0, .int .i64 0, .int .i64 0]) ?_ 3 _ rfl; (with_reducible repeat (first | refine blk_drewN ?_ _ | refine blk_drew ?_ | refine blk_alloc ?_ _)); refine blk_put (cs := #[.int .i64 3, .string (a0.extract (x10_1 : Int).toNat ((wrap64 (x10_1 + t160)) : Int).toNat), .int .i64 0, .int .i64 0, .int .i64 0]) ?_ 2 _ rfl; (with_reducible repeat (first | refine blk_drewN ?_ _ | refine blk_drew ?_ | refine blk_alloc ?_ _)); refine blk_put (cs := #[.int .i64 3, .string (⟨#[]⟩ : ByteArray), .int .i64 0, .int .i64 0, .int .i64 0]) ?_ 1 _ rfl; (with_reducible repeat (first | refine blk_drewN ?_ _ | refine blk_drew ?_ | refine blk_alloc ?_ _)); refine blk_put (cs := #[.int .i64 0, .string (⟨#[]⟩ : ByteArray), .int .i64 0, .int .i64 0, .int .i64 0]) ?_ 0 _ rfl; (with_reducible repeat (first | refine blk_drewN ?_ _ | refine blk_drew ?_ | refine blk_alloc ?_ _)); exact BK165.out⟩
                                    have n2_ : Aside0 (Below w.heap.size w (((((w50.setCell ⟨gb165, 0, none⟩ (.int .i64 3)).setCell ⟨gb165, 1, none⟩ (.string (a0.extract (x10_1 : Int).toNat ((wrap64 (x10_1 + t160)) : Int).toNat))).setCell ⟨gb165, 2, none⟩ (.int .i64 0)).setCell ⟨gb165, 3, none⟩ (.int .i64 x7_1)).setCell ⟨gb165, 4, none⟩ (.int .i64 x8_1))) := ⟨by repeat (first | (with_reducible first | exact HB.out | apply below_alloc | apply pw_below_drewN | apply below_drew1 | refine below_set ?_ GE165.out) | exact HB.out)⟩
                                    (try clear HO_6)
                                    (try clear BK165)
                                    (try clear HB)
                                    generalize (((((w50.setCell ⟨gb165, 0, none⟩ (.int .i64 3)).setCell ⟨gb165, 1, none⟩ (.string (a0.extract (x10_1 : Int).toNat ((wrap64 (x10_1 + t160)) : Int).toNat))).setCell ⟨gb165, 2, none⟩ (.int .i64 0)).setCell ⟨gb165, 3, none⟩ (.int .i64 x7_1)).setCell ⟨gb165, 4, none⟩ (.int .i64 x8_1)) = w52 at n0_ n1_ n2_ ⊢
                                    have HO_6 := n0_
                                    have BK165 := n1_
                                    have HB := n2_
                                    clear n0_ n1_ n2_
                                    (try (rw [drewN_self w52]; generalize hq_ : World.drewN w52 _ = w52; have n0_ : Aside0 (Kd.R k89 89 w52 w.heap.size (fun k_ => k_ ≠ gb165) u6 x6_1) := ⟨by rw [← hq_]; exact (by (with_reducible repeat (first | apply Kd.R_alloc | apply Kd.R_drewN | apply Kd.R_drew)); exact HO_6.out)⟩; have n1_ : Aside0 (w52.heap[gb165]? = some (.cells #[.int .i64 3, .string (a0.extract (x10_1 : Int).toNat ((wrap64 (x10_1 + t160)) : Int).toNat), .int .i64 0, .int .i64 x7_1, .int .i64 x8_1] 89 (0, 0))) := ⟨by rw [← hq_]; exact (by (with_reducible repeat (first | refine blk_drewN ?_ _ | refine blk_drew ?_ | refine blk_alloc ?_ _)); exact BK165.out)⟩; have n2_ : Aside0 (Below w.heap.size w w52) := ⟨by rw [← hq_]; exact (by repeat (first | (with_reducible first | exact HB.out | apply below_alloc | apply pw_below_drewN | apply below_drew1 | refine below_set ?_ GE165.out) | exact HB.out))⟩; clear HO_6 BK165 HB hq_; have HO_6 := n0_; have BK165 := n1_; have HB := n2_; clear n0_ n1_ n2_))
                                    have n0_ := Aside0.mk (Kd.R_drew HO_6.out)
                                    have n1_ := Aside0.mk (blk_drew BK165.out)
                                    have n2_ := Aside0.mk (below_drew1 HB.out)
                                    clear HO_6
                                    clear BK165
                                    clear HB
                                    have HO_6 := n0_
                                    have BK165 := n1_
                                    have HB := n2_
                                    clear n0_ n1_ n2_
                                    refine start_ (n := 15) (S := fun w' => True) (ds := []) #[false, false, false, false, false, false, false, false, false, false, false, false, false, false, false] (by kernel_rfl) rfl rfl trivial (fun hHeld => ?_); refine with_tabW intarsiaref01_Read.tab26 intarsiaref01_Read.bits26 (fun HT_ HW_ => ?_)
                                    generalize w52.drew = w53 at HO_6 BK165 HB hHeld ⊢
                                    refine pure_ (i := 0) (N := some 96) (v := ?_) (a' := ?_) #[true, false, false, false, false, false, false, false, false, false, false, false, false, false, false] rfl rfl (any_of HT_.out (by kernel_rfl)) (fun _ _ _ h => h) (Or.inl ⟨by rfl, ?_⟩) ?_ ?_
                                    rotate_left
                                    · intro w'
                                      go_simp
                                      with_reducible rfl
                                    rotate_left
                                    · simp only [Act.put, List.setIfInBounds_toArray, List.set_cons_zero, List.set_cons_succ, i64_w, i32_w]
                                      rfl
                                    refine pure_ (i := 1) (N := some 97) (v := ?_) (a' := ?_) #[true, true, false, false, false, false, false, false, false, false, false, false, false, false, false] rfl rfl (any_of HT_.out (by kernel_rfl)) (fun _ _ _ h => h) (Or.inl ⟨by rfl, ?_⟩) ?_ ?_
                                    rotate_left
                                    · intro w'
                                      go_simp
                                      with_reducible rfl
                                    rotate_left
                                    · simp only [Act.put, List.setIfInBounds_toArray, List.set_cons_zero, List.set_cons_succ, i64_w, i32_w]
                                      rfl
                                    refine pure_ (i := 2) (N := some 98) (v := ?_) (a' := ?_) #[true, true, true, false, false, false, false, false, false, false, false, false, false, false, false] rfl rfl (any_of HT_.out (by kernel_rfl)) (fun _ _ _ h => h) (Or.inl ⟨by rfl, ?_⟩) ?_ ?_
                                    rotate_left
                                    · intro w'
                                      go_simp
                                      with_reducible rfl
                                    rotate_left
                                    · simp only [Act.put, List.setIfInBounds_toArray, List.set_cons_zero, List.set_cons_succ, i64_w, i32_w]
                                      rfl
                                    refine pure_ (i := 3) (N := some 99) (v := ?_) (a' := ?_) #[true, true, true, true, false, false, false, false, false, false, false, false, false, false, false] rfl rfl (any_of HT_.out (by kernel_rfl)) (fun _ _ _ h => h) (Or.inl ⟨by rfl, ?_⟩) ?_ ?_
                                    rotate_left
                                    · intro w'
                                      go_simp
                                      with_reducible rfl
                                    rotate_left
                                    · simp only [Act.put, List.setIfInBounds_toArray, List.set_cons_zero, List.set_cons_succ, i64_w, i32_w]
                                      rfl
                                    refine pure_ (i := 4) (N := some 100) (v := ?_) (a' := ?_) #[true, true, true, true, true, false, false, false, false, false, false, false, false, false, false] rfl rfl (any_of HT_.out (by kernel_rfl)) (fun _ _ _ h => h) (Or.inl ⟨by rfl, ?_⟩) ?_ ?_
                                    rotate_left
                                    · intro w'
                                      go_simp
                                      with_reducible rfl
                                    rotate_left
                                    · simp only [Act.put, List.setIfInBounds_toArray, List.set_cons_zero, List.set_cons_succ, i64_w, i32_w]
                                      rfl
                                    refine pure_ (i := 5) (N := some 101) (v := ?_) (a' := ?_) #[true, true, true, true, true, true, false, false, false, false, false, false, false, false, false] rfl rfl (any_of HT_.out (by kernel_rfl)) (fun _ _ _ h => h) (Or.inl ⟨by rfl, ?_⟩) ?_ ?_
                                    rotate_left
                                    · intro w'
                                      go_simp
                                      with_reducible rfl
                                    rotate_left
                                    · simp only [Act.put, List.setIfInBounds_toArray, List.set_cons_zero, List.set_cons_succ, i64_w, i32_w]
                                      rfl
                                    refine pure_ (i := 6) (N := some 102) (v := ?_) (a' := ?_) #[true, true, true, true, true, true, true, false, false, false, false, false, false, false, false] rfl rfl (any_of HT_.out (by kernel_rfl)) (fun _ _ _ h => h) (Or.inl ⟨by rfl, ?_⟩) ?_ ?_
                                    rotate_left
                                    · intro w'
                                      go_simp
                                      with_reducible rfl
                                    rotate_left
                                    · simp only [Act.put, List.setIfInBounds_toArray, List.set_cons_zero, List.set_cons_succ, i64_w, i32_w]
                                      rfl
                                    refine pure_ (i := 7) (N := some 103) (v := ?_) (a' := ?_) #[true, true, true, true, true, true, true, true, false, false, false, false, false, false, false] rfl rfl (any_of HT_.out (by kernel_rfl)) (fun _ _ _ h => h) (Or.inl ⟨by rfl, ?_⟩) ?_ ?_
                                    rotate_left
                                    · intro w'
                                      go_simp
                                      with_reducible rfl
                                    rotate_left
                                    · simp only [Act.put, List.setIfInBounds_toArray, List.set_cons_zero, List.set_cons_succ, i64_w, i32_w]
                                      rfl
                                    refine pure_ (i := 8) (N := some 104) (v := ?_) (a' := ?_) #[true, true, true, true, true, true, true, true, true, false, false, false, false, false, false] rfl rfl (any_of HT_.out (by kernel_rfl)) (fun _ _ _ h => h) (Or.inl ⟨by rfl, ?_⟩) ?_ ?_
                                    rotate_left
                                    · intro w'
                                      go_simp
                                      with_reducible rfl
                                    rotate_left
                                    · simp only [Act.put, List.setIfInBounds_toArray, List.set_cons_zero, List.set_cons_succ, i64_w, i32_w]
                                      rfl
                                    refine one_ (i := 9) (N := none) #[true, true, true, true, true, true, true, true, true, true, false, false, false, false, false] rfl rfl (one_of HT_.out (by kernel_rfl)) (by decide) (fun K hK => ?_)
                                    have hs54 : w53.cell? ⟨gb165, 0, none⟩ = some (.int .i64 3) := (blk_cell BK165.out 0).trans rfl
                                    have hfs54 := blk_frozen BK165.out 0
                                    refine skip_ (w1 := ?_) (by rfl) rfl ?_ ?_
                                    rotate_left
                                    · go_simp
                                      rfl
                                    refine hK.out _ _ trivial (fun hHeld => ?_)
                                    clear hK K
                                    refine pure_ (i := 10) (N := some 105) (v := ?_) (a' := ?_) #[true, true, true, true, true, true, true, true, true, true, true, false, false, false, false] rfl rfl (any_of HT_.out (by kernel_rfl)) (fun _ _ _ h => h) (Or.inl ⟨by rfl, ?_⟩) ?_ ?_
                                    rotate_left
                                    · intro w'
                                      go_simp
                                      with_reducible rfl
                                    rotate_left
                                    · simp only [Act.put, List.setIfInBounds_toArray, List.set_cons_zero, List.set_cons_succ, i64_w, i32_w]
                                      rfl
                                    refine one_ (i := 11) (N := none) #[true, true, true, true, true, true, true, true, true, true, true, true, false, false, false] rfl rfl (one_of HT_.out (by kernel_rfl)) (by decide) (fun K hK => ?_)
                                    have hs55 : w53.cell? ⟨gb165, 1, none⟩ = some (.string (a0.extract (x10_1 : Int).toNat ((wrap64 (x10_1 + t160)) : Int).toNat)) := (blk_cell BK165.out 1).trans rfl
                                    have hfs55 := blk_frozen BK165.out 1
                                    refine skip_ (w1 := ?_) (by rfl) rfl ?_ ?_
                                    rotate_left
                                    · go_simp
                                      rfl
                                    refine hK.out _ _ trivial (fun hHeld => ?_)
                                    clear hK K
                                    refine pure_ (i := 12) (N := some 106) (v := ?_) (a' := ?_) #[true, true, true, true, true, true, true, true, true, true, true, true, true, false, false] rfl rfl (any_of HT_.out (by kernel_rfl)) (fun _ _ _ h => h) (Or.inl ⟨by rfl, ?_⟩) ?_ ?_
                                    rotate_left
                                    · intro w'
                                      go_simp
                                      with_reducible rfl
                                    rotate_left
                                    · simp only [Act.put, List.setIfInBounds_toArray, List.set_cons_zero, List.set_cons_succ, i64_w, i32_w]
                                      rfl
                                    refine one_ (i := 13) (N := none) #[true, true, true, true, true, true, true, true, true, true, true, true, true, true, false] rfl rfl (one_of HT_.out (by kernel_rfl)) (by decide) (fun K hK => ?_)
                                    have hs56 : w53.cell? ⟨gb165, 2, none⟩ = some (.int .i64 0) := (blk_cell BK165.out 2).trans rfl
                                    have hfs56 := blk_frozen BK165.out 2
                                    refine skip_ (w1 := ?_) (by rfl) rfl ?_ ?_
                                    rotate_left
                                    · go_simp
                                      rfl
                                    refine hK.out _ _ trivial (fun hHeld => ?_)
                                    clear hK K
                                    refine pure_ (i := 14) (N := some 14) (v := ?_) (a' := ?_) #[true, true, true, true, true, true, true, true, true, true, true, true, true, true, true] rfl rfl (any_of HT_.out (by kernel_rfl)) (fun _ _ _ h => h) (Or.inl ⟨by rfl, ?_⟩) ?_ ?_
                                    rotate_left
                                    · intro w'
                                      go_simp
                                      with_reducible rfl
                                    rotate_left
                                    · simp only [Act.put, List.setIfInBounds_toArray, List.set_cons_zero, List.set_cons_succ, i64_w, i32_w]
                                      rfl
                                    refine done_ (done_of HT_.out (by kernel_rfl)) ?_
                                    try go_wp2_with (first | ((with_reducible refine gate_callee (f := 60) rfl ?_); refine goesL_ (some 112) rfl rfl Tryd.func60 (by kernel_rfl) rfl #[.string a0, .int .i64 (wrap64 (x10_1 + t166))] rfl (by (try simp only [List.map_toArray, List.map_cons, List.map_nil]); first | done | rfl | (simp only [List.length_drop, List.length_take]; rfl)) ?_; (with_reducible refine (intarsiaref01_at.calls kj7 a0 (wrap64 (x10_1 + t166)) t169 t170 _ A27.out).mono ?_); rintro e w' ⟨rfl, ⟨nd, rfl⟩⟩; refine ⟨_, rfl, ?_⟩; have hcz57_0 : w53.cell? ⟨gb165, 0, none⟩ = some (.int .i64 3) := (blk_cell BK165.out 0).trans rfl; have hcz57_1 : w53.cell? ⟨gb165, 1, none⟩ = some (.string (a0.extract (x10_1 : Int).toNat ((wrap64 (x10_1 + t160)) : Int).toNat)) := (blk_cell BK165.out 1).trans rfl; have hcz57_2 : w53.cell? ⟨gb165, 2, none⟩ = some (.int .i64 0) := (blk_cell BK165.out 2).trans rfl; have hcz57_3 : w53.cell? ⟨gb165, 3, none⟩ = some (.int .i64 x7_1) := (blk_cell BK165.out 3).trans rfl; have hcz57_4 : w53.cell? ⟨gb165, 4, none⟩ = some (.int .i64 x8_1) := (blk_cell BK165.out 4).trans rfl; have hfz57_0 := blk_frozen BK165.out 0; have hfz57_1 := blk_frozen BK165.out 1; have hfz57_2 := blk_frozen BK165.out 2; have hfz57_3 := blk_frozen BK165.out 3; have hfz57_4 := blk_frozen BK165.out 4) | ((with_reducible refine gate_builtin (b := .append) (xs := #[.tmp 153, .tmp 155]) rfl ?_); at_builtin; refine Kd.R_append k89 (w0 := w) w.heap.size rfl (.tmp 153) (.tmp 155) 83 89 (.agg #[(.int .i64 0), (.string ⟨#[]⟩), (.int .i64 0), (.int .i64 0), (.int .i64 0)]) 48 rfl Tryd.underlying83 info89 rfl (by decide) (by omega) u6 x6_1 (⟨2, a0.extract (x10_1 : Int).toNat ((wrap64 (x10_1 + t166)) : Int).toNat, t167, x7_1, x8_1⟩ : S89) [.int .i64 2, .string (a0.extract (x10_1 : Int).toNat ((wrap64 (x10_1 + t166)) : Int).toNat), .int .i64 t167, .int .i64 x7_1, .int .i64 x8_1] (fun k_ => k_ ≠ gb165) (fun _ => False) rfl (by first | (go_simp; done) | (go_simp; rfl)) ?aP (fun _ hk => hk.elim) ?aF ?aO ?aB ?aS ?aL ?_; (case aP => exact k89_mkM _ _ _ (⟨2, a0.extract (x10_1 : Int).toNat ((wrap64 (x10_1 + t166)) : Int).toNat, t167, x7_1, x8_1⟩ : S89)); (case aB => exact (by repeat (first | (with_reducible first | exact HB.out | apply below_alloc | apply pw_below_drewN | apply below_drew1 | refine below_set ?_ GE165.out) | exact HB.out))); (case aF => exact (fun k_ hk => Kd.freshB (g := gb165) (o := .cells #[.int .i64 2, .string (a0.extract (x10_1 : Int).toNat ((wrap64 (x10_1 + t166)) : Int).toNat), .int .i64 t167, .int .i64 x7_1, .int .i64 x8_1] 89 (0, 0)) (by (with_reducible repeat (first | refine blk_drewN ?_ _ | refine blk_drew ?_ | refine blk_alloc ?_ _)); refine blk_put (cs := #[.int .i64 2, .string (a0.extract (x10_1 : Int).toNat ((wrap64 (x10_1 + t166)) : Int).toNat), .int .i64 0, .int .i64 x7_1, .int .i64 x8_1]) ?_ 2 _ rfl; (with_reducible repeat (first | refine blk_drewN ?_ _ | refine blk_drew ?_ | refine blk_alloc ?_ _)); refine blk_put (cs := #[.int .i64 2, .string (a0.extract (x10_1 : Int).toNat ((wrap64 (x10_1 + t160)) : Int).toNat), .int .i64 0, .int .i64 x7_1, .int .i64 x8_1]) ?_ 1 _ rfl; (with_reducible repeat (first | refine blk_drewN ?_ _ | refine blk_drew ?_ | refine blk_alloc ?_ _)); refine blk_put (cs := #[.int .i64 3, .string (a0.extract (x10_1 : Int).toNat ((wrap64 (x10_1 + t160)) : Int).toNat), .int .i64 0, .int .i64 x7_1, .int .i64 x8_1]) ?_ 0 _ rfl; (with_reducible repeat (first | refine blk_drewN ?_ _ | refine blk_drew ?_ | refine blk_alloc ?_ _)); exact BK165.out) k_ hk)); (case aO => exact (by (with_reducible repeat (first | apply Kd.R_alloc | apply Kd.R_drewN | apply Kd.R_drew)); exact Kd.R_mono (Kd.R_far (p := ⟨gb165, 2, none⟩) (Kd.R_far (p := ⟨gb165, 1, none⟩) (Kd.R_far (p := ⟨gb165, 0, none⟩) (Kd.R_mono HO_6.out (fun k_ hk => (⟨hk, hk⟩ : _ ∧ k_ ≠ gb165))) (fun _ hk => hk.2) (.int .i64 2)) (fun _ hk => hk.2) (.string (a0.extract (x10_1 : Int).toNat ((wrap64 (x10_1 + t166)) : Int).toNat))) (fun _ hk => hk.2) (.int .i64 t167)) (fun _ hk => hk.1))); (case aS => exact (below_size (by repeat (first | (with_reducible first | exact HB.out | apply below_alloc | apply pw_below_drewN | apply below_drew1 | refine below_set ?_ GE165.out) | exact HB.out)))); (case aL => have := LMc49.out; omega); intro v176 w58 ho hb hg hat; rw [← Ny175.out] at ho; have n0_ := Aside0.mk (blk_grown (g := gb165) (o := .cells #[.int .i64 2, .string (a0.extract (x10_1 : Int).toNat ((wrap64 (x10_1 + t166)) : Int).toNat), .int .i64 t167, .int .i64 x7_1, .int .i64 x8_1] 89 (0, 0)) (by (with_reducible repeat (first | refine blk_drewN ?_ _ | refine blk_drew ?_ | refine blk_alloc ?_ _)); refine blk_put (cs := #[.int .i64 2, .string (a0.extract (x10_1 : Int).toNat ((wrap64 (x10_1 + t166)) : Int).toNat), .int .i64 0, .int .i64 x7_1, .int .i64 x8_1]) ?_ 2 _ rfl; (with_reducible repeat (first | refine blk_drewN ?_ _ | refine blk_drew ?_ | refine blk_alloc ?_ _)); refine blk_put (cs := #[.int .i64 2, .string (a0.extract (x10_1 : Int).toNat ((wrap64 (x10_1 + t160)) : Int).toNat), .int .i64 0, .int .i64 x7_1, .int .i64 x8_1]) ?_ 1 _ rfl; (with_reducible repeat (first | refine blk_drewN ?_ _ | refine blk_drew ?_ | refine blk_alloc ?_ _)); refine blk_put (cs := #[.int .i64 3, .string (a0.extract (x10_1 : Int).toNat ((wrap64 (x10_1 + t160)) : Int).toNat), .int .i64 0, .int .i64 x7_1, .int .i64 x8_1]) ?_ 0 _ rfl; (with_reducible repeat (first | refine blk_drewN ?_ _ | refine blk_drew ?_ | refine blk_alloc ?_ _)); exact BK165.out) hg (Kd.R_away HO_6.out (fun _ hk => hk))); have n1_ := Aside0.mk (hb); have n2_ := Aside0.mk (ho); clear BK165; clear HB; clear HO_6; have BK165 := n0_; have HB := n1_; have HO177 := n2_; clear n0_ n1_ n2_; clear ho hb hg hat; have hcz59_0 : w58.cell? ⟨gb165, 0, none⟩ = some (.int .i64 2) := (blk_cell BK165.out 0).trans rfl; have hcz59_1 : w58.cell? ⟨gb165, 1, none⟩ = some (.string (a0.extract (x10_1 : Int).toNat ((wrap64 (x10_1 + t166)) : Int).toNat)) := (blk_cell BK165.out 1).trans rfl; have hcz59_2 : w58.cell? ⟨gb165, 2, none⟩ = some (.int .i64 t167) := (blk_cell BK165.out 2).trans rfl; have hcz59_3 : w58.cell? ⟨gb165, 3, none⟩ = some (.int .i64 x7_1) := (blk_cell BK165.out 3).trans rfl; have hcz59_4 : w58.cell? ⟨gb165, 4, none⟩ = some (.int .i64 x8_1) := (blk_cell BK165.out 4).trans rfl; have hfz59_0 := blk_frozen BK165.out 0; have hfz59_1 := blk_frozen BK165.out 1; have hfz59_2 := blk_frozen BK165.out 2; have hfz59_3 := blk_frozen BK165.out 3; have hfz59_4 := blk_frozen BK165.out 4))
                                    go_roundg kj7
                                    case measure => have := HK1.out; have := HJ7.out; omega
                                    case rel => exact ⟨(y175), (x7_1), (wrap64 (x8_1 + t166)), (x9_1), (wrap64 (x10_1 + ((a0.extract (x10_1 : Int).toNat ((wrap64 (x10_1 + t166)) : Int).toNat).size : Int))), (by first | rfl | (simp; done) | (simp [*]; done)), (by first | rfl | (simp; done) | (simp [*]; done)), (by first | rfl | (simp; done) | (simp [*]; done)), (by first | rfl | (simp; done) | (simp [*]; done)), H', ⟨by have := HK1.out; have := HJ7.out; omega⟩, ⟨by (with_reducible repeat (first | apply Kd.R_alloc | apply Kd.R_drewN | apply Kd.R_drew)); exact Kd.R_mono HO177.out (fun _ hk => trivial)⟩, ⟨by repeat (first | (with_reducible first | exact HB.out | apply below_alloc | apply pw_below_drewN | apply below_drew1 | refine below_set ?_ GE165.out) | exact HB.out)⟩⟩
                                  · rw [if_neg c49] at H
                                    exact absurd H (by simp)
                              · replace c23 := Bool.eq_false_iff.mpr c23
                                subst c23
                                have H1 : (some (([] : List (S89)), x7_1, x8_1, 3)) = some (r1, r2, r3, r4) := by rw [if_neg (show ¬ (false = true) by decide)] at H; exact H
                                clear H
                                have H := H1
                                clear H1
                                simp only [Option.some.injEq, Prod.mk.injEq] at H
                                obtain ⟨rfl, rfl, rfl, rfl⟩ := H
                                go_wp2_with (first | ((with_reducible refine gate_dst (N := 13) rfl ?_); refine box_event ?hg (N := 13) ?hd (cs := #[.int .i64 0, .string (⟨#[]⟩ : ByteArray), .int .i64 0, .int .i64 0, .int .i64 0]) (t := 89) ?hr ?_; (case hd => rfl); (case hg => rfl); (case hr => first | (go_simp; done) | (go_simp; rfl)); intro gb165 hg w60 hbox hb; have n0_ := Aside0.mk (Kd.R_below (Kd.R_elderB (by (with_reducible repeat (first | apply Kd.R_alloc | apply Kd.R_drewN | apply Kd.R_drew)); exact HO_6.out) gb165 (Nat.le_of_eq hg.symm)) hb); have n1_ := Aside0.mk (below_step (by repeat (first | (with_reducible first | exact HB.out | apply below_alloc | apply pw_below_drewN | apply below_drew1) | exact HB.out)) hb); have n2_ := Aside0.mk (hbox); have n3_ := Aside0.mk ((by rw [hg]; exact (below_size (by repeat (first | (with_reducible first | exact HB.out | apply below_alloc | apply pw_below_drewN | apply below_drew1) | exact HB.out))) : w.heap.size ≤ gb165)); have n4_ := Aside0.mk ((by rw [hg]; exact (below_size (by repeat (first | (with_reducible first | exact HB.out | apply below_alloc | apply pw_below_drewN | apply below_drew1) | exact HB.out))) : w.heap.size ≤ gb165)); clear HO_6; clear HB; have HO_6 := n0_; have HB := n1_; have BK165 := n2_; have GW165 := n3_; have GE165 := n4_; clear n0_ n1_ n2_ n3_ n4_; clear hb hbox hg; have hcz61_0 : w60.cell? ⟨gb165, 0, none⟩ = some (.int .i64 0) := (blk_cell BK165.out 0).trans rfl; have hcz61_1 : w60.cell? ⟨gb165, 1, none⟩ = some (.string (⟨#[]⟩ : ByteArray)) := (blk_cell BK165.out 1).trans rfl; have hcz61_2 : w60.cell? ⟨gb165, 2, none⟩ = some (.int .i64 0) := (blk_cell BK165.out 2).trans rfl; have hcz61_3 : w60.cell? ⟨gb165, 3, none⟩ = some (.int .i64 0) := (blk_cell BK165.out 3).trans rfl; have hcz61_4 : w60.cell? ⟨gb165, 4, none⟩ = some (.int .i64 0) := (blk_cell BK165.out 4).trans rfl; have hfz61_0 := blk_frozen BK165.out 0; have hfz61_1 := blk_frozen BK165.out 1; have hfz61_2 := blk_frozen BK165.out 2; have hfz61_3 := blk_frozen BK165.out 3; have hfz61_4 := blk_frozen BK165.out 4) | ((with_reducible refine gate_callee (f := 62) rfl ?_); refine goesL_ (some 78) rfl rfl Tryd.func62 (by kernel_rfl) rfl #[.string a0, .int .i64 x10_1] rfl (by (try simp only [List.map_toArray, List.map_cons, List.map_nil]); first | done | rfl | (simp only [List.length_drop, List.length_take]; rfl)) ?_; (with_reducible refine (intarsiaref01_numbers.calls kj7 a0 x10_1 t166 _ A17.out).mono ?_); rintro e w' ⟨rfl, ⟨nd, rfl⟩⟩; refine ⟨_, rfl, ?_⟩) | ((with_reducible refine gate_callee (f := 63) rfl ?_); refine goesL_ (some 89) rfl rfl Tryd.func63 (by kernel_rfl) rfl #[.string (a0.extract (x10_1 : Int).toNat ((wrap64 (x10_1 + t166)) : Int).toNat)] rfl (by (try simp only [List.map_toArray, List.map_cons, List.map_nil]); first | done | rfl | (simp only [List.length_drop, List.length_take]; rfl)) ?_; (with_reducible refine (intarsiaref01_value.calls kj7 (a0.extract (x10_1 : Int).toNat ((wrap64 (x10_1 + t166)) : Int).toNat) t167 false _ A22.out).mono ?_); rintro e w' ⟨rfl, ⟨nd, rfl⟩⟩; refine ⟨_, rfl, ?_⟩))
                                refine bodyPost_ret (results_list (rs := [.tmp 2, .tmp 3, .tmp 4, .tmp 5]) rfl (by simp) (.tmp (.tmp (.tmp (.tmp .nil))))) rfl ?_
                                exact ⟨_, by first | rfl | (simp [errW_none, errW_some] <;> rfl) | (simp [*, errW_none, errW_some] <;> rfl), by first | exact Kd.R_nil _ _ _ _ _ | exact Kd.N_nil _ _ _ _ _ | exact Kd.V_nil _ _ _ _ _ | exact Kd.Q_nil _ _ _ _ _ | exact Kd.S_nil _ _ _ _ _, by repeat (first | (with_reducible first | exact HB.out | apply below_alloc | apply pw_below_drewN | apply below_drew1 | refine below_set ?_ GE165.out) | exact HB.out)⟩
                            · rw [if_neg c21] at H
                              exact absurd H (by simp)
                          · rw [if_neg c20] at H
                            exact absurd H (by simp)
                        · rw [if_neg c18] at H
                          have c18b0 : decide (0 < t166) = false := decide_eq_false c18
                          clear c18
                          replace H := Option.bind_eq_some_iff.mp H
                          obtain ⟨t178, A620, H⟩ := H
                          replace H : (if t178 = true then ((intarsiaref01_run.f kj7 a0 x10_1 false).bind fun bt179 => (if bt179.2 > 16 then (some (([] : List (S89)), x7_1, x8_1, 3)) else (if x10_1 ≤ (wrap64 (x10_1 + bt179.1)) then (if (wrap64 (x10_1 + bt179.1)) ≤ (a0.size : Int) then (if x6_1.length < 2932031007402 then (intarsiaref01_Read.l0 kj7 a0 (x6_1 ++ [(⟨1, a0.extract (x10_1 : Int).toNat ((wrap64 (x10_1 + bt179.1)) : Int).toNat, 0, x7_1, x8_1⟩ : S89)]) x7_1 (wrap64 (x8_1 + bt179.2)) x9_1 (wrap64 (x10_1 + ((a0.extract (x10_1 : Int).toNat ((wrap64 (x10_1 + bt179.1)) : Int).toNat).size : Int)))) else (none)) else (none)) else (none)))) else ((intarsiaref01_Sign.f t159).bind fun t184 => (if t184 = true then (if x6_1.length < 2932031007402 then (intarsiaref01_Read.l0 kj7 a0 (x6_1 ++ [(⟨3, a0.extract (x10_1 : Int).toNat ((wrap64 (x10_1 + t160)) : Int).toNat, 0, x7_1, x8_1⟩ : S89)]) x7_1 (wrap64 (x8_1 + 1)) x9_1 (wrap64 (x10_1 + ((a0.extract (x10_1 : Int).toNat ((wrap64 (x10_1 + t160)) : Int).toNat).size : Int)))) else (none)) else (some (([] : List (S89)), x7_1, x8_1, 6))))) = some (r1, r2, r3, r4) := H
                          have A62 := Aside0.mk A620
                          clear A620
                          by_cases c63 : t178 = true
                          · subst c63
                            have H1 : ((intarsiaref01_run.f kj7 a0 x10_1 false).bind fun bt179 => (if bt179.2 > 16 then (some (([] : List (S89)), x7_1, x8_1, 3)) else (if x10_1 ≤ (wrap64 (x10_1 + bt179.1)) then (if (wrap64 (x10_1 + bt179.1)) ≤ (a0.size : Int) then (if x6_1.length < 2932031007402 then (intarsiaref01_Read.l0 kj7 a0 (x6_1 ++ [(⟨1, a0.extract (x10_1 : Int).toNat ((wrap64 (x10_1 + bt179.1)) : Int).toNat, 0, x7_1, x8_1⟩ : S89)]) x7_1 (wrap64 (x8_1 + bt179.2)) x9_1 (wrap64 (x10_1 + ((a0.extract (x10_1 : Int).toNat ((wrap64 (x10_1 + bt179.1)) : Int).toNat).size : Int)))) else (none)) else (none)) else (none)))) = some (r1, r2, r3, r4) := by rw [if_pos rfl] at H; exact H
                            clear H
                            have H := H1
                            clear H1
                            replace H := Option.bind_eq_some_iff.mp H
                            obtain ⟨⟨t179, t180⟩, A640, H⟩ := H
                            replace H : (if t180 > 16 then (some (([] : List (S89)), x7_1, x8_1, 3)) else (if x10_1 ≤ (wrap64 (x10_1 + t179)) then (if (wrap64 (x10_1 + t179)) ≤ (a0.size : Int) then (if x6_1.length < 2932031007402 then (intarsiaref01_Read.l0 kj7 a0 (x6_1 ++ [(⟨1, a0.extract (x10_1 : Int).toNat ((wrap64 (x10_1 + t179)) : Int).toNat, 0, x7_1, x8_1⟩ : S89)]) x7_1 (wrap64 (x8_1 + t180)) x9_1 (wrap64 (x10_1 + ((a0.extract (x10_1 : Int).toNat ((wrap64 (x10_1 + t179)) : Int).toNat).size : Int)))) else (none)) else (none)) else (none))) = some (r1, r2, r3, r4) := H
                            have A64 := Aside0.mk A640
                            clear A640
                            by_cases c65 : t180 > 16
                            · rw [if_pos c65] at H
                              have c65b0 : decide (16 < t180) = true := decide_eq_true c65
                              clear c65
                              simp only [Option.some.injEq, Prod.mk.injEq] at H
                              obtain ⟨rfl, rfl, rfl, rfl⟩ := H
                              go_wp2_with (first | ((with_reducible refine gate_dst (N := 13) rfl ?_); refine box_event ?hg (N := 13) ?hd (cs := #[.int .i64 0, .string (⟨#[]⟩ : ByteArray), .int .i64 0, .int .i64 0, .int .i64 0]) (t := 89) ?hr ?_; (case hd => rfl); (case hg => rfl); (case hr => first | (go_simp; done) | (go_simp; rfl)); intro gb165 hg w66 hbox hb; have n0_ := Aside0.mk (Kd.R_below (Kd.R_elderB (by (with_reducible repeat (first | apply Kd.R_alloc | apply Kd.R_drewN | apply Kd.R_drew)); exact HO_6.out) gb165 (Nat.le_of_eq hg.symm)) hb); have n1_ := Aside0.mk (below_step (by repeat (first | (with_reducible first | exact HB.out | apply below_alloc | apply pw_below_drewN | apply below_drew1) | exact HB.out)) hb); have n2_ := Aside0.mk (hbox); have n3_ := Aside0.mk ((by rw [hg]; exact (below_size (by repeat (first | (with_reducible first | exact HB.out | apply below_alloc | apply pw_below_drewN | apply below_drew1) | exact HB.out))) : w.heap.size ≤ gb165)); have n4_ := Aside0.mk ((by rw [hg]; exact (below_size (by repeat (first | (with_reducible first | exact HB.out | apply below_alloc | apply pw_below_drewN | apply below_drew1) | exact HB.out))) : w.heap.size ≤ gb165)); clear HO_6; clear HB; have HO_6 := n0_; have HB := n1_; have BK165 := n2_; have GW165 := n3_; have GE165 := n4_; clear n0_ n1_ n2_ n3_ n4_; clear hb hbox hg; have hcz67_0 : w66.cell? ⟨gb165, 0, none⟩ = some (.int .i64 0) := (blk_cell BK165.out 0).trans rfl; have hcz67_1 : w66.cell? ⟨gb165, 1, none⟩ = some (.string (⟨#[]⟩ : ByteArray)) := (blk_cell BK165.out 1).trans rfl; have hcz67_2 : w66.cell? ⟨gb165, 2, none⟩ = some (.int .i64 0) := (blk_cell BK165.out 2).trans rfl; have hcz67_3 : w66.cell? ⟨gb165, 3, none⟩ = some (.int .i64 0) := (blk_cell BK165.out 3).trans rfl; have hcz67_4 : w66.cell? ⟨gb165, 4, none⟩ = some (.int .i64 0) := (blk_cell BK165.out 4).trans rfl; have hfz67_0 := blk_frozen BK165.out 0; have hfz67_1 := blk_frozen BK165.out 1; have hfz67_2 := blk_frozen BK165.out 2; have hfz67_3 := blk_frozen BK165.out 3; have hfz67_4 := blk_frozen BK165.out 4) | ((with_reducible refine gate_callee (f := 62) rfl ?_); refine goesL_ (some 78) rfl rfl Tryd.func62 (by kernel_rfl) rfl #[.string a0, .int .i64 x10_1] rfl (by (try simp only [List.map_toArray, List.map_cons, List.map_nil]); first | done | rfl | (simp only [List.length_drop, List.length_take]; rfl)) ?_; (with_reducible refine (intarsiaref01_numbers.calls kj7 a0 x10_1 t166 _ A17.out).mono ?_); rintro e w' ⟨rfl, ⟨nd, rfl⟩⟩; refine ⟨_, rfl, ?_⟩) | ((with_reducible refine gate_callee (f := 64) rfl ?_); refine goesL_ (some 127) rfl rfl Tryd.func64 (by kernel_rfl) rfl #[.int .i32 t159] rfl (by (try simp only [List.map_toArray, List.map_cons, List.map_nil]); first | done | rfl | (simp only [List.length_drop, List.length_take]; rfl)) ?_; (with_reducible refine (intarsiaref01_Letter.calls t159 true _ A62.out).mono ?_); rintro e w' ⟨rfl, ⟨nd, rfl⟩⟩; refine ⟨_, rfl, ?_⟩) | ((with_reducible refine gate_callee (f := 65) rfl ?_); refine goesL_ (some 131) rfl rfl Tryd.func65 (by kernel_rfl) rfl #[.string a0, .int .i64 x10_1, .bool false] rfl (by (try simp only [List.map_toArray, List.map_cons, List.map_nil]); first | done | rfl | (simp only [List.length_drop, List.length_take]; rfl)) ?_; (with_reducible refine (intarsiaref01_run.calls kj7 a0 x10_1 false t179 t180 _ A64.out).mono ?_); rintro e w' ⟨rfl, ⟨nd, rfl⟩⟩; refine ⟨_, rfl, ?_⟩))
                              refine bodyPost_ret (results_list (rs := [.tmp 2, .tmp 3, .tmp 4, .tmp 5]) rfl (by simp) (.tmp (.tmp (.tmp (.tmp .nil))))) rfl ?_
                              exact ⟨_, by first | rfl | (simp [errW_none, errW_some] <;> rfl) | (simp [*, errW_none, errW_some] <;> rfl), by first | exact Kd.R_nil _ _ _ _ _ | exact Kd.N_nil _ _ _ _ _ | exact Kd.V_nil _ _ _ _ _ | exact Kd.Q_nil _ _ _ _ _ | exact Kd.S_nil _ _ _ _ _, by repeat (first | (with_reducible first | exact HB.out | apply below_alloc | apply pw_below_drewN | apply below_drew1 | refine below_set ?_ GE165.out) | exact HB.out)⟩
                            · rw [if_neg c65] at H
                              have c65b0 : decide (16 < t180) = false := decide_eq_false c65
                              clear c65
                              have c68b0 := eq_true (of_decide_eq_true (by first | (with_reducible assumption) | assumption) : 0 ≤ x10_1)
                              by_cases c69 : x10_1 ≤ (wrap64 (x10_1 + t179))
                              · rw [if_pos c69] at H
                                have c69b0 := eq_true c69
                                have c69b1 : decide (x10_1 ≤ (wrap64 (x10_1 + t179))) = true := decide_eq_true c69
                                by_cases c70 : (wrap64 (x10_1 + t179)) ≤ (a0.size : Int)
                                · rw [if_pos c70] at H
                                  have c70b0 := eq_true c70
                                  have c70b1 : decide ((wrap64 (x10_1 + t179)) ≤ (a0.size : Int)) = true := decide_eq_true c70
                                  by_cases c71 : x6_1.length < 2932031007402
                                  · rw [if_pos c71] at H
                                    have LMc71 := Aside0.mk c71
                                    clear c71
                                    obtain ⟨y181, hy181⟩ : ∃ y_ : List (S89), y_ = (x6_1 ++ [(⟨1, a0.extract (x10_1 : Int).toNat ((wrap64 (x10_1 + t179)) : Int).toNat, 0, x7_1, x8_1⟩ : S89)]) := ⟨_, rfl⟩
                                    replace H : (intarsiaref01_Read.l0 kj7 a0 y181 x7_1 (wrap64 (x8_1 + t180)) x9_1 (wrap64 (x10_1 + ((a0.extract (x10_1 : Int).toNat ((wrap64 (x10_1 + t179)) : Int).toNat).size : Int)))) = some (r1, r2, r3, r4) := by first | (rw [hy181]; with_reducible exact H) | (have H2_ := (Option.bind_some _ _).symm.trans H; rw [hy181]; with_reducible exact H2_) | (have H2_ := (Option.bind_some _ _).symm.trans H; with_reducible exact H2_) | with_reducible exact H | (rw [hy181]; exact H) | exact H
                                    have Ny181 := Aside0.mk hy181
                                    clear hy181
                                    have H' := Aside0.mk H
                                    clear H
                                    try go_wp2_with (first | ((with_reducible refine gate_dst (N := 13) rfl ?_); refine box_event ?hg (N := 13) ?hd (cs := #[.int .i64 0, .string (⟨#[]⟩ : ByteArray), .int .i64 0, .int .i64 0, .int .i64 0]) (t := 89) ?hr ?_; (case hd => rfl); (case hg => rfl); (case hr => first | (go_simp; done) | (go_simp; rfl)); intro gb165 hg w72 hbox hb; have n0_ := Aside0.mk (Kd.R_below (Kd.R_elderB (by (with_reducible repeat (first | apply Kd.R_alloc | apply Kd.R_drewN | apply Kd.R_drew)); exact HO_6.out) gb165 (Nat.le_of_eq hg.symm)) hb); have n1_ := Aside0.mk (below_step (by repeat (first | (with_reducible first | exact HB.out | apply below_alloc | apply pw_below_drewN | apply below_drew1) | exact HB.out)) hb); have n2_ := Aside0.mk (hbox); have n3_ := Aside0.mk ((by rw [hg]; exact (below_size (by repeat (first | (with_reducible first | exact HB.out | apply below_alloc | apply pw_below_drewN | apply below_drew1) | exact HB.out))) : w.heap.size ≤ gb165)); have n4_ := Aside0.mk ((by rw [hg]; exact (below_size (by repeat (first | (with_reducible first | exact HB.out | apply below_alloc | apply pw_below_drewN | apply below_drew1) | exact HB.out))) : w.heap.size ≤ gb165)); clear HO_6; clear HB; have HO_6 := n0_; have HB := n1_; have BK165 := n2_; have GW165 := n3_; have GE165 := n4_; clear n0_ n1_ n2_ n3_ n4_; clear hb hbox hg; have hcz73_0 : w72.cell? ⟨gb165, 0, none⟩ = some (.int .i64 0) := (blk_cell BK165.out 0).trans rfl; have hcz73_1 : w72.cell? ⟨gb165, 1, none⟩ = some (.string (⟨#[]⟩ : ByteArray)) := (blk_cell BK165.out 1).trans rfl; have hcz73_2 : w72.cell? ⟨gb165, 2, none⟩ = some (.int .i64 0) := (blk_cell BK165.out 2).trans rfl; have hcz73_3 : w72.cell? ⟨gb165, 3, none⟩ = some (.int .i64 0) := (blk_cell BK165.out 3).trans rfl; have hcz73_4 : w72.cell? ⟨gb165, 4, none⟩ = some (.int .i64 0) := (blk_cell BK165.out 4).trans rfl; have hfz73_0 := blk_frozen BK165.out 0; have hfz73_1 := blk_frozen BK165.out 1; have hfz73_2 := blk_frozen BK165.out 2; have hfz73_3 := blk_frozen BK165.out 3; have hfz73_4 := blk_frozen BK165.out 4) | ((with_reducible refine gate_callee (f := 62) rfl ?_); refine goesL_ (some 78) rfl rfl Tryd.func62 (by kernel_rfl) rfl #[.string a0, .int .i64 x10_1] rfl (by (try simp only [List.map_toArray, List.map_cons, List.map_nil]); first | done | rfl | (simp only [List.length_drop, List.length_take]; rfl)) ?_; (with_reducible refine (intarsiaref01_numbers.calls kj7 a0 x10_1 t166 _ A17.out).mono ?_); rintro e w' ⟨rfl, ⟨nd, rfl⟩⟩; refine ⟨_, rfl, ?_⟩) | ((with_reducible refine gate_callee (f := 64) rfl ?_); refine goesL_ (some 127) rfl rfl Tryd.func64 (by kernel_rfl) rfl #[.int .i32 t159] rfl (by (try simp only [List.map_toArray, List.map_cons, List.map_nil]); first | done | rfl | (simp only [List.length_drop, List.length_take]; rfl)) ?_; (with_reducible refine (intarsiaref01_Letter.calls t159 true _ A62.out).mono ?_); rintro e w' ⟨rfl, ⟨nd, rfl⟩⟩; refine ⟨_, rfl, ?_⟩) | ((with_reducible refine gate_callee (f := 65) rfl ?_); refine goesL_ (some 131) rfl rfl Tryd.func65 (by kernel_rfl) rfl #[.string a0, .int .i64 x10_1, .bool false] rfl (by (try simp only [List.map_toArray, List.map_cons, List.map_nil]); first | done | rfl | (simp only [List.length_drop, List.length_take]; rfl)) ?_; (with_reducible refine (intarsiaref01_run.calls kj7 a0 x10_1 false t179 t180 _ A64.out).mono ?_); rintro e w' ⟨rfl, ⟨nd, rfl⟩⟩; refine ⟨_, rfl, ?_⟩))
                                    have n0_ : Aside0 (Kd.R k89 89 (((((w72.setCell ⟨gb165, 0, none⟩ (.int .i64 3)).setCell ⟨gb165, 1, none⟩ (.string (a0.extract (x10_1 : Int).toNat ((wrap64 (x10_1 + t160)) : Int).toNat))).setCell ⟨gb165, 2, none⟩ (.int .i64 0)).setCell ⟨gb165, 3, none⟩ (.int .i64 x7_1)).setCell ⟨gb165, 4, none⟩ (.int .i64 x8_1)) w.heap.size (fun k_ => k_ ≠ gb165) u6 x6_1) := ⟨by (with_reducible repeat (first | apply Kd.R_alloc | apply Kd.R_drewN | apply Kd.R_drew)); exact Kd.R_mono (Kd.R_far (p := ⟨gb165, 4, none⟩) (Kd.R_far (p := ⟨gb165, 3, none⟩) (Kd.R_far (p := ⟨gb165, 2, none⟩) (Kd.R_far (p := ⟨gb165, 1, none⟩) (Kd.R_far (p := ⟨gb165, 0, none⟩) (Kd.R_mono HO_6.out (fun k_ hk => (⟨hk, hk.2⟩ : _ ∧ k_ ≠ gb165))) (fun _ hk => hk.2) (.int .i64 3)) (fun _ hk => hk.2) (.string (a0.extract (x10_1 : Int).toNat ((wrap64 (x10_1 + t160)) : Int).toNat))) (fun _ hk => hk.2) (.int .i64 0)) (fun _ hk => hk.2) (.int .i64 x7_1)) (fun _ hk => hk.2) (.int .i64 x8_1)) (fun _ hk => hk.1.2)⟩
                                    have n1_ : Aside0 ((((((w72.setCell ⟨gb165, 0, none⟩ (.int .i64 3)).setCell ⟨gb165, 1, none⟩ (.string (a0.extract (x10_1 : Int).toNat ((wrap64 (x10_1 + t160)) : Int).toNat))).setCell ⟨gb165, 2, none⟩ (.int .i64 0)).setCell ⟨gb165, 3, none⟩ (.int .i64 x7_1)).setCell ⟨gb165, 4, none⟩ (.int .i64 x8_1)).heap[gb165]? = some (.cells #[.int .i64 3, .string (a0.extract (x10_1 : Int).toNat ((wrap64 (x10_1 + t160)) : Int).toNat), .int .i64 0, .int .i64 x7_1, .int .i64 x8_1] 89 (0, 0))) := ⟨by (with_reducible repeat (first | refine blk_drewN ?_ _ | refine blk_drew ?_ | refine blk_alloc ?_ _)); refine blk_put (cs := #[.int .i64 3, .string (a0.extract (x10_1 : Int).toNat ((wrap64 (x10_1 + t160)) : Int).toNat), .int .i64 0, .int .i64 x7_1, .int .i64 0]) ?_ 4 _ rfl; (with_reducible repeat (first | refine blk_drewN ?_ _ | refine blk_drew ?_ | refine blk_alloc ?_ _)); refine blk_put (cs := #[.int .i64 3, .string (a0.extract (x10_1 : Int).toNat ((wrap64 (x10_1 + t160)) : Int).toNat), .int .i64 0, .int .i64 0, .int .i64 0]) ?_ 3 _ rfl; (with_reducible repeat (first | refine blk_drewN ?_ _ | refine blk_drew ?_ | refine blk_alloc ?_ _)); refine blk_put (cs := #[.int .i64 3, .string (a0.extract (x10_1 : Int).toNat ((wrap64 (x10_1 + t160)) : Int).toNat), .int .i64 0, .int .i64 0, .int .i64 0]) ?_ 2 _ rfl; (with_reducible repeat (first | refine blk_drewN ?_ _ | refine blk_drew ?_ | refine blk_alloc ?_ _)); refine blk_put (cs := #[.int .i64 3, .string (⟨#[]⟩ : ByteArray), .int .i64 0, .int .i64 0, .int .i64 0]) ?_ 1 _ rfl; (with_reducible repeat (first | refine blk_drewN ?_ _ | refine blk_drew ?_ | refine blk_alloc ?_ _)); refine blk_put (cs := #[.int .i64 0, .string (⟨#[]⟩ : ByteArray), .int .i64 0, .int .i64 0, .int .i64 0]) ?_ 0 _ rfl; (with_reducible repeat (first | refine blk_drewN ?_ _ | refine blk_drew ?_ | refine blk_alloc ?_ _)); exact BK165.out⟩
                                    have n2_ : Aside0 (Below w.heap.size w (((((w72.setCell ⟨gb165, 0, none⟩ (.int .i64 3)).setCell ⟨gb165, 1, none⟩ (.string (a0.extract (x10_1 : Int).toNat ((wrap64 (x10_1 + t160)) : Int).toNat))).setCell ⟨gb165, 2, none⟩ (.int .i64 0)).setCell ⟨gb165, 3, none⟩ (.int .i64 x7_1)).setCell ⟨gb165, 4, none⟩ (.int .i64 x8_1))) := ⟨by repeat (first | (with_reducible first | exact HB.out | apply below_alloc | apply pw_below_drewN | apply below_drew1 | refine below_set ?_ GE165.out) | exact HB.out)⟩
                                    (try clear HO_6)
                                    (try clear BK165)
                                    (try clear HB)
                                    generalize (((((w72.setCell ⟨gb165, 0, none⟩ (.int .i64 3)).setCell ⟨gb165, 1, none⟩ (.string (a0.extract (x10_1 : Int).toNat ((wrap64 (x10_1 + t160)) : Int).toNat))).setCell ⟨gb165, 2, none⟩ (.int .i64 0)).setCell ⟨gb165, 3, none⟩ (.int .i64 x7_1)).setCell ⟨gb165, 4, none⟩ (.int .i64 x8_1)) = w74 at n0_ n1_ n2_ ⊢
                                    have HO_6 := n0_
                                    have BK165 := n1_
                                    have HB := n2_
                                    clear n0_ n1_ n2_
                                    (try (rw [drewN_self w74]; generalize hq_ : World.drewN w74 _ = w74; have n0_ : Aside0 (Kd.R k89 89 w74 w.heap.size (fun k_ => k_ ≠ gb165) u6 x6_1) := ⟨by rw [← hq_]; exact (by (with_reducible repeat (first | apply Kd.R_alloc | apply Kd.R_drewN | apply Kd.R_drew)); exact HO_6.out)⟩; have n1_ : Aside0 (w74.heap[gb165]? = some (.cells #[.int .i64 3, .string (a0.extract (x10_1 : Int).toNat ((wrap64 (x10_1 + t160)) : Int).toNat), .int .i64 0, .int .i64 x7_1, .int .i64 x8_1] 89 (0, 0))) := ⟨by rw [← hq_]; exact (by (with_reducible repeat (first | refine blk_drewN ?_ _ | refine blk_drew ?_ | refine blk_alloc ?_ _)); exact BK165.out)⟩; have n2_ : Aside0 (Below w.heap.size w w74) := ⟨by rw [← hq_]; exact (by repeat (first | (with_reducible first | exact HB.out | apply below_alloc | apply pw_below_drewN | apply below_drew1 | refine below_set ?_ GE165.out) | exact HB.out))⟩; clear HO_6 BK165 HB hq_; have HO_6 := n0_; have BK165 := n1_; have HB := n2_; clear n0_ n1_ n2_))
                                    have n0_ := Aside0.mk (Kd.R_drew HO_6.out)
                                    have n1_ := Aside0.mk (blk_drew BK165.out)
                                    have n2_ := Aside0.mk (below_drew1 HB.out)
                                    clear HO_6
                                    clear BK165
                                    clear HB
                                    have HO_6 := n0_
                                    have BK165 := n1_
                                    have HB := n2_
                                    clear n0_ n1_ n2_
                                    refine start_ (n := 12) (S := fun w' => True) (ds := []) #[false, false, false, false, false, false, false, false, false, false, false, false] (by kernel_rfl) rfl rfl trivial (fun hHeld => ?_); refine with_tabW intarsiaref01_Read.tab34 intarsiaref01_Read.bits34 (fun HT_ HW_ => ?_)
                                    generalize w74.drew = w75 at HO_6 BK165 HB hHeld ⊢
                                    refine pure_ (i := 0) (N := some 138) (v := ?_) (a' := ?_) #[true, false, false, false, false, false, false, false, false, false, false, false] rfl rfl (any_of HT_.out (by kernel_rfl)) (fun _ _ _ h => h) (Or.inl ⟨by rfl, ?_⟩) ?_ ?_
                                    rotate_left
                                    · intro w'
                                      go_simp
                                      with_reducible rfl
                                    rotate_left
                                    · simp only [Act.put, List.setIfInBounds_toArray, List.set_cons_zero, List.set_cons_succ, i64_w, i32_w]
                                      rfl
                                    refine pure_ (i := 1) (N := some 139) (v := ?_) (a' := ?_) #[true, true, false, false, false, false, false, false, false, false, false, false] rfl rfl (any_of HT_.out (by kernel_rfl)) (fun _ _ _ h => h) (Or.inl ⟨by rfl, ?_⟩) ?_ ?_
                                    rotate_left
                                    · intro w'
                                      go_simp
                                      with_reducible rfl
                                    rotate_left
                                    · simp only [Act.put, List.setIfInBounds_toArray, List.set_cons_zero, List.set_cons_succ, i64_w, i32_w]
                                      rfl
                                    refine pure_ (i := 2) (N := some 140) (v := ?_) (a' := ?_) #[true, true, true, false, false, false, false, false, false, false, false, false] rfl rfl (any_of HT_.out (by kernel_rfl)) (fun _ _ _ h => h) (Or.inl ⟨by rfl, ?_⟩) ?_ ?_
                                    rotate_left
                                    · intro w'
                                      go_simp
                                      with_reducible rfl
                                    rotate_left
                                    · simp only [Act.put, List.setIfInBounds_toArray, List.set_cons_zero, List.set_cons_succ, i64_w, i32_w]
                                      rfl
                                    refine pure_ (i := 3) (N := some 141) (v := ?_) (a' := ?_) #[true, true, true, true, false, false, false, false, false, false, false, false] rfl rfl (any_of HT_.out (by kernel_rfl)) (fun _ _ _ h => h) (Or.inl ⟨by rfl, ?_⟩) ?_ ?_
                                    rotate_left
                                    · intro w'
                                      go_simp
                                      with_reducible rfl
                                    rotate_left
                                    · simp only [Act.put, List.setIfInBounds_toArray, List.set_cons_zero, List.set_cons_succ, i64_w, i32_w]
                                      rfl
                                    refine pure_ (i := 4) (N := some 142) (v := ?_) (a' := ?_) #[true, true, true, true, true, false, false, false, false, false, false, false] rfl rfl (any_of HT_.out (by kernel_rfl)) (fun _ _ _ h => h) (Or.inl ⟨by rfl, ?_⟩) ?_ ?_
                                    rotate_left
                                    · intro w'
                                      go_simp
                                      with_reducible rfl
                                    rotate_left
                                    · simp only [Act.put, List.setIfInBounds_toArray, List.set_cons_zero, List.set_cons_succ, i64_w, i32_w]
                                      rfl
                                    refine pure_ (i := 5) (N := some 143) (v := ?_) (a' := ?_) #[true, true, true, true, true, true, false, false, false, false, false, false] rfl rfl (any_of HT_.out (by kernel_rfl)) (fun _ _ _ h => h) (Or.inl ⟨by rfl, ?_⟩) ?_ ?_
                                    rotate_left
                                    · intro w'
                                      go_simp
                                      with_reducible rfl
                                    rotate_left
                                    · simp only [Act.put, List.setIfInBounds_toArray, List.set_cons_zero, List.set_cons_succ, i64_w, i32_w]
                                      rfl
                                    refine pure_ (i := 6) (N := some 144) (v := ?_) (a' := ?_) #[true, true, true, true, true, true, true, false, false, false, false, false] rfl rfl (any_of HT_.out (by kernel_rfl)) (fun _ _ _ h => h) (Or.inl ⟨by rfl, ?_⟩) ?_ ?_
                                    rotate_left
                                    · intro w'
                                      go_simp
                                      with_reducible rfl
                                    rotate_left
                                    · simp only [Act.put, List.setIfInBounds_toArray, List.set_cons_zero, List.set_cons_succ, i64_w, i32_w]
                                      rfl
                                    refine pure_ (i := 7) (N := some 145) (v := ?_) (a' := ?_) #[true, true, true, true, true, true, true, true, false, false, false, false] rfl rfl (any_of HT_.out (by kernel_rfl)) (fun _ _ _ h => h) (Or.inl ⟨by rfl, ?_⟩) ?_ ?_
                                    rotate_left
                                    · intro w'
                                      go_simp
                                      with_reducible rfl
                                    rotate_left
                                    · simp only [Act.put, List.setIfInBounds_toArray, List.set_cons_zero, List.set_cons_succ, i64_w, i32_w]
                                      rfl
                                    refine one_ (i := 8) (N := none) #[true, true, true, true, true, true, true, true, true, false, false, false] rfl rfl (one_of HT_.out (by kernel_rfl)) (by decide) (fun K hK => ?_)
                                    have hs76 : w75.cell? ⟨gb165, 0, none⟩ = some (.int .i64 3) := (blk_cell BK165.out 0).trans rfl
                                    have hfs76 := blk_frozen BK165.out 0
                                    refine skip_ (w1 := ?_) (by rfl) rfl ?_ ?_
                                    rotate_left
                                    · go_simp
                                      rfl
                                    refine hK.out _ _ trivial (fun hHeld => ?_)
                                    clear hK K
                                    refine pure_ (i := 9) (N := some 146) (v := ?_) (a' := ?_) #[true, true, true, true, true, true, true, true, true, true, false, false] rfl rfl (any_of HT_.out (by kernel_rfl)) (fun _ _ _ h => h) (Or.inl ⟨by rfl, ?_⟩) ?_ ?_
                                    rotate_left
                                    · intro w'
                                      go_simp
                                      with_reducible rfl
                                    rotate_left
                                    · simp only [Act.put, List.setIfInBounds_toArray, List.set_cons_zero, List.set_cons_succ, i64_w, i32_w]
                                      rfl
                                    refine one_ (i := 10) (N := none) #[true, true, true, true, true, true, true, true, true, true, true, false] rfl rfl (one_of HT_.out (by kernel_rfl)) (by decide) (fun K hK => ?_)
                                    have hs77 : w75.cell? ⟨gb165, 1, none⟩ = some (.string (a0.extract (x10_1 : Int).toNat ((wrap64 (x10_1 + t160)) : Int).toNat)) := (blk_cell BK165.out 1).trans rfl
                                    have hfs77 := blk_frozen BK165.out 1
                                    refine skip_ (w1 := ?_) (by rfl) rfl ?_ ?_
                                    rotate_left
                                    · go_simp
                                      rfl
                                    refine hK.out _ _ trivial (fun hHeld => ?_)
                                    clear hK K
                                    refine pure_ (i := 11) (N := some 14) (v := ?_) (a' := ?_) #[true, true, true, true, true, true, true, true, true, true, true, true] rfl rfl (any_of HT_.out (by kernel_rfl)) (fun _ _ _ h => h) (Or.inl ⟨by rfl, ?_⟩) ?_ ?_
                                    rotate_left
                                    · intro w'
                                      go_simp
                                      with_reducible rfl
                                    rotate_left
                                    · simp only [Act.put, List.setIfInBounds_toArray, List.set_cons_zero, List.set_cons_succ, i64_w, i32_w]
                                      rfl
                                    refine done_ (done_of HT_.out (by kernel_rfl)) ?_
                                    have hcz78_0 : w75.cell? ⟨gb165, 0, none⟩ = some (.int .i64 3) := (blk_cell BK165.out 0).trans rfl
                                    have hcz78_1 : w75.cell? ⟨gb165, 1, none⟩ = some (.string (a0.extract (x10_1 : Int).toNat ((wrap64 (x10_1 + t160)) : Int).toNat)) := (blk_cell BK165.out 1).trans rfl
                                    have hcz78_2 : w75.cell? ⟨gb165, 2, none⟩ = some (.int .i64 0) := (blk_cell BK165.out 2).trans rfl
                                    have hcz78_3 : w75.cell? ⟨gb165, 3, none⟩ = some (.int .i64 x7_1) := (blk_cell BK165.out 3).trans rfl
                                    have hcz78_4 : w75.cell? ⟨gb165, 4, none⟩ = some (.int .i64 x8_1) := (blk_cell BK165.out 4).trans rfl
                                    have hfz78_0 := blk_frozen BK165.out 0
                                    have hfz78_1 := blk_frozen BK165.out 1
                                    have hfz78_2 := blk_frozen BK165.out 2
                                    have hfz78_3 := blk_frozen BK165.out 3
                                    have hfz78_4 := blk_frozen BK165.out 4
                                    try go_wp2_with (first | ((with_reducible refine gate_builtin (b := .append) (xs := #[.tmp 153, .tmp 155]) rfl ?_); at_builtin; refine Kd.R_append k89 (w0 := w) w.heap.size rfl (.tmp 153) (.tmp 155) 83 89 (.agg #[(.int .i64 0), (.string ⟨#[]⟩), (.int .i64 0), (.int .i64 0), (.int .i64 0)]) 48 rfl Tryd.underlying83 info89 rfl (by decide) (by omega) u6 x6_1 (⟨1, a0.extract (x10_1 : Int).toNat ((wrap64 (x10_1 + t179)) : Int).toNat, 0, x7_1, x8_1⟩ : S89) [.int .i64 1, .string (a0.extract (x10_1 : Int).toNat ((wrap64 (x10_1 + t179)) : Int).toNat), .int .i64 0, .int .i64 x7_1, .int .i64 x8_1] (fun k_ => k_ ≠ gb165) (fun _ => False) rfl (by first | (go_simp; done) | (go_simp; rfl)) ?aP (fun _ hk => hk.elim) ?aF ?aO ?aB ?aS ?aL ?_; (case aP => exact k89_mkM _ _ _ (⟨1, a0.extract (x10_1 : Int).toNat ((wrap64 (x10_1 + t179)) : Int).toNat, 0, x7_1, x8_1⟩ : S89)); (case aB => exact (by repeat (first | (with_reducible first | exact HB.out | apply below_alloc | apply pw_below_drewN | apply below_drew1 | refine below_set ?_ GE165.out) | exact HB.out))); (case aF => exact (fun k_ hk => Kd.freshB (g := gb165) (o := .cells #[.int .i64 1, .string (a0.extract (x10_1 : Int).toNat ((wrap64 (x10_1 + t179)) : Int).toNat), .int .i64 0, .int .i64 x7_1, .int .i64 x8_1] 89 (0, 0)) (by (with_reducible repeat (first | refine blk_drewN ?_ _ | refine blk_drew ?_ | refine blk_alloc ?_ _)); refine blk_put (cs := #[.int .i64 1, .string (a0.extract (x10_1 : Int).toNat ((wrap64 (x10_1 + t160)) : Int).toNat), .int .i64 0, .int .i64 x7_1, .int .i64 x8_1]) ?_ 1 _ rfl; (with_reducible repeat (first | refine blk_drewN ?_ _ | refine blk_drew ?_ | refine blk_alloc ?_ _)); refine blk_put (cs := #[.int .i64 3, .string (a0.extract (x10_1 : Int).toNat ((wrap64 (x10_1 + t160)) : Int).toNat), .int .i64 0, .int .i64 x7_1, .int .i64 x8_1]) ?_ 0 _ rfl; (with_reducible repeat (first | refine blk_drewN ?_ _ | refine blk_drew ?_ | refine blk_alloc ?_ _)); exact BK165.out) k_ hk)); (case aO => exact (by (with_reducible repeat (first | apply Kd.R_alloc | apply Kd.R_drewN | apply Kd.R_drew)); exact Kd.R_mono (Kd.R_far (p := ⟨gb165, 1, none⟩) (Kd.R_far (p := ⟨gb165, 0, none⟩) (Kd.R_mono HO_6.out (fun k_ hk => (⟨hk, hk⟩ : _ ∧ k_ ≠ gb165))) (fun _ hk => hk.2) (.int .i64 1)) (fun _ hk => hk.2) (.string (a0.extract (x10_1 : Int).toNat ((wrap64 (x10_1 + t179)) : Int).toNat))) (fun _ hk => hk.1))); (case aS => exact (below_size (by repeat (first | (with_reducible first | exact HB.out | apply below_alloc | apply pw_below_drewN | apply below_drew1 | refine below_set ?_ GE165.out) | exact HB.out)))); (case aL => have := LMc71.out; omega); intro v182 w79 ho hb hg hat; rw [← Ny181.out] at ho; have n0_ := Aside0.mk (blk_grown (g := gb165) (o := .cells #[.int .i64 1, .string (a0.extract (x10_1 : Int).toNat ((wrap64 (x10_1 + t179)) : Int).toNat), .int .i64 0, .int .i64 x7_1, .int .i64 x8_1] 89 (0, 0)) (by (with_reducible repeat (first | refine blk_drewN ?_ _ | refine blk_drew ?_ | refine blk_alloc ?_ _)); refine blk_put (cs := #[.int .i64 1, .string (a0.extract (x10_1 : Int).toNat ((wrap64 (x10_1 + t160)) : Int).toNat), .int .i64 0, .int .i64 x7_1, .int .i64 x8_1]) ?_ 1 _ rfl; (with_reducible repeat (first | refine blk_drewN ?_ _ | refine blk_drew ?_ | refine blk_alloc ?_ _)); refine blk_put (cs := #[.int .i64 3, .string (a0.extract (x10_1 : Int).toNat ((wrap64 (x10_1 + t160)) : Int).toNat), .int .i64 0, .int .i64 x7_1, .int .i64 x8_1]) ?_ 0 _ rfl; (with_reducible repeat (first | refine blk_drewN ?_ _ | refine blk_drew ?_ | refine blk_alloc ?_ _)); exact BK165.out) hg (Kd.R_away HO_6.out (fun _ hk => hk))); have n1_ := Aside0.mk (hb); have n2_ := Aside0.mk (ho); clear BK165; clear HB; clear HO_6; have BK165 := n0_; have HB := n1_; have HO183 := n2_; clear n0_ n1_ n2_; clear ho hb hg hat; have hcz80_0 : w79.cell? ⟨gb165, 0, none⟩ = some (.int .i64 1) := (blk_cell BK165.out 0).trans rfl; have hcz80_1 : w79.cell? ⟨gb165, 1, none⟩ = some (.string (a0.extract (x10_1 : Int).toNat ((wrap64 (x10_1 + t179)) : Int).toNat)) := (blk_cell BK165.out 1).trans rfl; have hcz80_2 : w79.cell? ⟨gb165, 2, none⟩ = some (.int .i64 0) := (blk_cell BK165.out 2).trans rfl; have hcz80_3 : w79.cell? ⟨gb165, 3, none⟩ = some (.int .i64 x7_1) := (blk_cell BK165.out 3).trans rfl; have hcz80_4 : w79.cell? ⟨gb165, 4, none⟩ = some (.int .i64 x8_1) := (blk_cell BK165.out 4).trans rfl; have hfz80_0 := blk_frozen BK165.out 0; have hfz80_1 := blk_frozen BK165.out 1; have hfz80_2 := blk_frozen BK165.out 2; have hfz80_3 := blk_frozen BK165.out 3; have hfz80_4 := blk_frozen BK165.out 4))
                                    go_roundg kj7
                                    case measure => have := HK1.out; have := HJ7.out; omega
                                    case rel => exact ⟨(y181), (x7_1), (wrap64 (x8_1 + t180)), (x9_1), (wrap64 (x10_1 + ((a0.extract (x10_1 : Int).toNat ((wrap64 (x10_1 + t179)) : Int).toNat).size : Int))), (by first | rfl | (simp; done) | (simp [*]; done)), (by first | rfl | (simp; done) | (simp [*]; done)), (by first | rfl | (simp; done) | (simp [*]; done)), (by first | rfl | (simp; done) | (simp [*]; done)), H', ⟨by have := HK1.out; have := HJ7.out; omega⟩, ⟨by (with_reducible repeat (first | apply Kd.R_alloc | apply Kd.R_drewN | apply Kd.R_drew)); exact Kd.R_mono HO183.out (fun _ hk => trivial)⟩, ⟨by repeat (first | (with_reducible first | exact HB.out | apply below_alloc | apply pw_below_drewN | apply below_drew1 | refine below_set ?_ GE165.out) | exact HB.out)⟩⟩
                                  · rw [if_neg c71] at H
                                    exact absurd H (by simp)
                                · rw [if_neg c70] at H
                                  exact absurd H (by simp)
                              · rw [if_neg c69] at H
                                exact absurd H (by simp)
                          · replace c63 := Bool.eq_false_iff.mpr c63
                            subst c63
                            have H1 : ((intarsiaref01_Sign.f t159).bind fun t184 => (if t184 = true then (if x6_1.length < 2932031007402 then (intarsiaref01_Read.l0 kj7 a0 (x6_1 ++ [(⟨3, a0.extract (x10_1 : Int).toNat ((wrap64 (x10_1 + t160)) : Int).toNat, 0, x7_1, x8_1⟩ : S89)]) x7_1 (wrap64 (x8_1 + 1)) x9_1 (wrap64 (x10_1 + ((a0.extract (x10_1 : Int).toNat ((wrap64 (x10_1 + t160)) : Int).toNat).size : Int)))) else (none)) else (some (([] : List (S89)), x7_1, x8_1, 6)))) = some (r1, r2, r3, r4) := by rw [if_neg (show ¬ (false = true) by decide)] at H; exact H
                            clear H
                            have H := H1
                            clear H1
                            replace H := Option.bind_eq_some_iff.mp H
                            obtain ⟨t184, A810, H⟩ := H
                            replace H : (if t184 = true then (if x6_1.length < 2932031007402 then (intarsiaref01_Read.l0 kj7 a0 (x6_1 ++ [(⟨3, a0.extract (x10_1 : Int).toNat ((wrap64 (x10_1 + t160)) : Int).toNat, 0, x7_1, x8_1⟩ : S89)]) x7_1 (wrap64 (x8_1 + 1)) x9_1 (wrap64 (x10_1 + ((a0.extract (x10_1 : Int).toNat ((wrap64 (x10_1 + t160)) : Int).toNat).size : Int)))) else (none)) else (some (([] : List (S89)), x7_1, x8_1, 6))) = some (r1, r2, r3, r4) := H
                            have A81 := Aside0.mk A810
                            clear A810
                            by_cases c82 : t184 = true
                            · subst c82
                              have H1 : (if x6_1.length < 2932031007402 then (intarsiaref01_Read.l0 kj7 a0 (x6_1 ++ [(⟨3, a0.extract (x10_1 : Int).toNat ((wrap64 (x10_1 + t160)) : Int).toNat, 0, x7_1, x8_1⟩ : S89)]) x7_1 (wrap64 (x8_1 + 1)) x9_1 (wrap64 (x10_1 + ((a0.extract (x10_1 : Int).toNat ((wrap64 (x10_1 + t160)) : Int).toNat).size : Int)))) else (none)) = some (r1, r2, r3, r4) := by rw [if_pos rfl] at H; exact H
                              clear H
                              have H := H1
                              clear H1
                              by_cases c83 : x6_1.length < 2932031007402
                              · rw [if_pos c83] at H
                                have LMc83 := Aside0.mk c83
                                clear c83
                                obtain ⟨y185, hy185⟩ : ∃ y_ : List (S89), y_ = (x6_1 ++ [(⟨3, a0.extract (x10_1 : Int).toNat ((wrap64 (x10_1 + t160)) : Int).toNat, 0, x7_1, x8_1⟩ : S89)]) := ⟨_, rfl⟩
                                replace H : (intarsiaref01_Read.l0 kj7 a0 y185 x7_1 (wrap64 (x8_1 + 1)) x9_1 (wrap64 (x10_1 + ((a0.extract (x10_1 : Int).toNat ((wrap64 (x10_1 + t160)) : Int).toNat).size : Int)))) = some (r1, r2, r3, r4) := by first | (rw [hy185]; with_reducible exact H) | (have H2_ := (Option.bind_some _ _).symm.trans H; rw [hy185]; with_reducible exact H2_) | (have H2_ := (Option.bind_some _ _).symm.trans H; with_reducible exact H2_) | with_reducible exact H | (rw [hy185]; exact H) | exact H
                                have Ny185 := Aside0.mk hy185
                                clear hy185
                                have H' := Aside0.mk H
                                clear H
                                go_wp2_with (first | ((with_reducible refine gate_dst (N := 13) rfl ?_); refine box_event ?hg (N := 13) ?hd (cs := #[.int .i64 0, .string (⟨#[]⟩ : ByteArray), .int .i64 0, .int .i64 0, .int .i64 0]) (t := 89) ?hr ?_; (case hd => rfl); (case hg => rfl); (case hr => first | (go_simp; done) | (go_simp; rfl)); intro gb165 hg w84 hbox hb; have n0_ := Aside0.mk (Kd.R_below (Kd.R_elderB (by (with_reducible repeat (first | apply Kd.R_alloc | apply Kd.R_drewN | apply Kd.R_drew)); exact HO_6.out) gb165 (Nat.le_of_eq hg.symm)) hb); have n1_ := Aside0.mk (below_step (by repeat (first | (with_reducible first | exact HB.out | apply below_alloc | apply pw_below_drewN | apply below_drew1) | exact HB.out)) hb); have n2_ := Aside0.mk (hbox); have n3_ := Aside0.mk ((by rw [hg]; exact (below_size (by repeat (first | (with_reducible first | exact HB.out | apply below_alloc | apply pw_below_drewN | apply below_drew1) | exact HB.out))) : w.heap.size ≤ gb165)); have n4_ := Aside0.mk ((by rw [hg]; exact (below_size (by repeat (first | (with_reducible first | exact HB.out | apply below_alloc | apply pw_below_drewN | apply below_drew1) | exact HB.out))) : w.heap.size ≤ gb165)); clear HO_6; clear HB; have HO_6 := n0_; have HB := n1_; have BK165 := n2_; have GW165 := n3_; have GE165 := n4_; clear n0_ n1_ n2_ n3_ n4_; clear hb hbox hg; have hcz85_0 : w84.cell? ⟨gb165, 0, none⟩ = some (.int .i64 0) := (blk_cell BK165.out 0).trans rfl; have hcz85_1 : w84.cell? ⟨gb165, 1, none⟩ = some (.string (⟨#[]⟩ : ByteArray)) := (blk_cell BK165.out 1).trans rfl; have hcz85_2 : w84.cell? ⟨gb165, 2, none⟩ = some (.int .i64 0) := (blk_cell BK165.out 2).trans rfl; have hcz85_3 : w84.cell? ⟨gb165, 3, none⟩ = some (.int .i64 0) := (blk_cell BK165.out 3).trans rfl; have hcz85_4 : w84.cell? ⟨gb165, 4, none⟩ = some (.int .i64 0) := (blk_cell BK165.out 4).trans rfl; have hfz85_0 := blk_frozen BK165.out 0; have hfz85_1 := blk_frozen BK165.out 1; have hfz85_2 := blk_frozen BK165.out 2; have hfz85_3 := blk_frozen BK165.out 3; have hfz85_4 := blk_frozen BK165.out 4) | ((with_reducible refine gate_callee (f := 62) rfl ?_); refine goesL_ (some 78) rfl rfl Tryd.func62 (by kernel_rfl) rfl #[.string a0, .int .i64 x10_1] rfl (by (try simp only [List.map_toArray, List.map_cons, List.map_nil]); first | done | rfl | (simp only [List.length_drop, List.length_take]; rfl)) ?_; (with_reducible refine (intarsiaref01_numbers.calls kj7 a0 x10_1 t166 _ A17.out).mono ?_); rintro e w' ⟨rfl, ⟨nd, rfl⟩⟩; refine ⟨_, rfl, ?_⟩) | ((with_reducible refine gate_callee (f := 64) rfl ?_); refine goesL_ (some 127) rfl rfl Tryd.func64 (by kernel_rfl) rfl #[.int .i32 t159] rfl (by (try simp only [List.map_toArray, List.map_cons, List.map_nil]); first | done | rfl | (simp only [List.length_drop, List.length_take]; rfl)) ?_; (with_reducible refine (intarsiaref01_Letter.calls t159 false _ A62.out).mono ?_); rintro e w' ⟨rfl, ⟨nd, rfl⟩⟩; refine ⟨_, rfl, ?_⟩) | ((with_reducible refine gate_callee (f := 66) rfl ?_); refine goesL_ (some 149) rfl rfl Tryd.func66 (by kernel_rfl) rfl #[.int .i32 t159] rfl (by (try simp only [List.map_toArray, List.map_cons, List.map_nil]); first | done | rfl | (simp only [List.length_drop, List.length_take]; rfl)) ?_; (with_reducible refine (intarsiaref01_Sign.calls t159 true _ A81.out).mono ?_); rintro e w' ⟨rfl, ⟨nd, rfl⟩⟩; refine ⟨_, rfl, ?_⟩) | ((with_reducible refine gate_builtin (b := .append) (xs := #[.tmp 153, .tmp 155]) rfl ?_); at_builtin; refine Kd.R_append k89 (w0 := w) w.heap.size rfl (.tmp 153) (.tmp 155) 83 89 (.agg #[(.int .i64 0), (.string ⟨#[]⟩), (.int .i64 0), (.int .i64 0), (.int .i64 0)]) 48 rfl Tryd.underlying83 info89 rfl (by decide) (by omega) u6 x6_1 (⟨3, a0.extract (x10_1 : Int).toNat ((wrap64 (x10_1 + t160)) : Int).toNat, 0, x7_1, x8_1⟩ : S89) [.int .i64 3, .string (a0.extract (x10_1 : Int).toNat ((wrap64 (x10_1 + t160)) : Int).toNat), .int .i64 0, .int .i64 x7_1, .int .i64 x8_1] (fun k_ => k_ ≠ gb165) (fun _ => False) rfl (by first | (go_simp; done) | (go_simp; rfl)) ?aP (fun _ hk => hk.elim) ?aF ?aO ?aB ?aS ?aL ?_; (case aP => exact k89_mkM _ _ _ (⟨3, a0.extract (x10_1 : Int).toNat ((wrap64 (x10_1 + t160)) : Int).toNat, 0, x7_1, x8_1⟩ : S89)); (case aB => exact (by repeat (first | (with_reducible first | exact HB.out | apply below_alloc | apply pw_below_drewN | apply below_drew1 | refine below_set ?_ GE165.out) | exact HB.out))); (case aF => exact (fun k_ hk => Kd.freshB (g := gb165) (o := .cells #[.int .i64 3, .string (a0.extract (x10_1 : Int).toNat ((wrap64 (x10_1 + t160)) : Int).toNat), .int .i64 0, .int .i64 x7_1, .int .i64 x8_1] 89 (0, 0)) (by (with_reducible repeat (first | refine blk_drewN ?_ _ | refine blk_drew ?_ | refine blk_alloc ?_ _)); refine blk_put (cs := #[.int .i64 3, .string (a0.extract (x10_1 : Int).toNat ((wrap64 (x10_1 + t160)) : Int).toNat), .int .i64 0, .int .i64 x7_1, .int .i64 0]) ?_ 4 _ rfl; (with_reducible repeat (first | refine blk_drewN ?_ _ | refine blk_drew ?_ | refine blk_alloc ?_ _)); refine blk_put (cs := #[.int .i64 3, .string (a0.extract (x10_1 : Int).toNat ((wrap64 (x10_1 + t160)) : Int).toNat), .int .i64 0, .int .i64 0, .int .i64 0]) ?_ 3 _ rfl; (with_reducible repeat (first | refine blk_drewN ?_ _ | refine blk_drew ?_ | refine blk_alloc ?_ _)); refine blk_put (cs := #[.int .i64 3, .string (a0.extract (x10_1 : Int).toNat ((wrap64 (x10_1 + t160)) : Int).toNat), .int .i64 0, .int .i64 0, .int .i64 0]) ?_ 2 _ rfl; (with_reducible repeat (first | refine blk_drewN ?_ _ | refine blk_drew ?_ | refine blk_alloc ?_ _)); refine blk_put (cs := #[.int .i64 3, .string (⟨#[]⟩ : ByteArray), .int .i64 0, .int .i64 0, .int .i64 0]) ?_ 1 _ rfl; (with_reducible repeat (first | refine blk_drewN ?_ _ | refine blk_drew ?_ | refine blk_alloc ?_ _)); refine blk_put (cs := #[.int .i64 0, .string (⟨#[]⟩ : ByteArray), .int .i64 0, .int .i64 0, .int .i64 0]) ?_ 0 _ rfl; (with_reducible repeat (first | refine blk_drewN ?_ _ | refine blk_drew ?_ | refine blk_alloc ?_ _)); exact BK165.out) k_ hk)); (case aO => exact (by (with_reducible repeat (first | apply Kd.R_alloc | apply Kd.R_drewN | apply Kd.R_drew)); exact Kd.R_mono (Kd.R_far (p := ⟨gb165, 4, none⟩) (Kd.R_far (p := ⟨gb165, 3, none⟩) (Kd.R_far (p := ⟨gb165, 2, none⟩) (Kd.R_far (p := ⟨gb165, 1, none⟩) (Kd.R_far (p := ⟨gb165, 0, none⟩) (Kd.R_mono HO_6.out (fun k_ hk => (⟨hk, hk.2⟩ : _ ∧ k_ ≠ gb165))) (fun _ hk => hk.2) (.int .i64 3)) (fun _ hk => hk.2) (.string (a0.extract (x10_1 : Int).toNat ((wrap64 (x10_1 + t160)) : Int).toNat))) (fun _ hk => hk.2) (.int .i64 0)) (fun _ hk => hk.2) (.int .i64 x7_1)) (fun _ hk => hk.2) (.int .i64 x8_1)) (fun _ hk => hk.1.2))); (case aS => exact (below_size (by repeat (first | (with_reducible first | exact HB.out | apply below_alloc | apply pw_below_drewN | apply below_drew1 | refine below_set ?_ GE165.out) | exact HB.out)))); (case aL => have := LMc83.out; omega); intro v186 w86 ho hb hg hat; rw [← Ny185.out] at ho; have n0_ := Aside0.mk (blk_grown (g := gb165) (o := .cells #[.int .i64 3, .string (a0.extract (x10_1 : Int).toNat ((wrap64 (x10_1 + t160)) : Int).toNat), .int .i64 0, .int .i64 x7_1, .int .i64 x8_1] 89 (0, 0)) (by (with_reducible repeat (first | refine blk_drewN ?_ _ | refine blk_drew ?_ | refine blk_alloc ?_ _)); refine blk_put (cs := #[.int .i64 3, .string (a0.extract (x10_1 : Int).toNat ((wrap64 (x10_1 + t160)) : Int).toNat), .int .i64 0, .int .i64 x7_1, .int .i64 0]) ?_ 4 _ rfl; (with_reducible repeat (first | refine blk_drewN ?_ _ | refine blk_drew ?_ | refine blk_alloc ?_ _)); refine blk_put (cs := #[.int .i64 3, .string (a0.extract (x10_1 : Int).toNat ((wrap64 (x10_1 + t160)) : Int).toNat), .int .i64 0, .int .i64 0, .int .i64 0]) ?_ 3 _ rfl; (with_reducible repeat (first | refine blk_drewN ?_ _ | refine blk_drew ?_ | refine blk_alloc ?_ _)); refine blk_put (cs := #[.int .i64 3, .string (a0.extract (x10_1 : Int).toNat ((wrap64 (x10_1 + t160)) : Int).toNat), .int .i64 0, .int .i64 0, .int .i64 0]) ?_ 2 _ rfl; (with_reducible repeat (first | refine blk_drewN ?_ _ | refine blk_drew ?_ | refine blk_alloc ?_ _)); refine blk_put (cs := #[.int .i64 3, .string (⟨#[]⟩ : ByteArray), .int .i64 0, .int .i64 0, .int .i64 0]) ?_ 1 _ rfl; (with_reducible repeat (first | refine blk_drewN ?_ _ | refine blk_drew ?_ | refine blk_alloc ?_ _)); refine blk_put (cs := #[.int .i64 0, .string (⟨#[]⟩ : ByteArray), .int .i64 0, .int .i64 0, .int .i64 0]) ?_ 0 _ rfl; (with_reducible repeat (first | refine blk_drewN ?_ _ | refine blk_drew ?_ | refine blk_alloc ?_ _)); exact BK165.out) hg (Kd.R_away HO_6.out (fun _ hk => hk.2))); have n1_ := Aside0.mk (hb); have n2_ := Aside0.mk (ho); clear BK165; clear HB; clear HO_6; have BK165 := n0_; have HB := n1_; have HO187 := n2_; clear n0_ n1_ n2_; clear ho hb hg hat; have hcz87_0 : w86.cell? ⟨gb165, 0, none⟩ = some (.int .i64 3) := (blk_cell BK165.out 0).trans rfl; have hcz87_1 : w86.cell? ⟨gb165, 1, none⟩ = some (.string (a0.extract (x10_1 : Int).toNat ((wrap64 (x10_1 + t160)) : Int).toNat)) := (blk_cell BK165.out 1).trans rfl; have hcz87_2 : w86.cell? ⟨gb165, 2, none⟩ = some (.int .i64 0) := (blk_cell BK165.out 2).trans rfl; have hcz87_3 : w86.cell? ⟨gb165, 3, none⟩ = some (.int .i64 x7_1) := (blk_cell BK165.out 3).trans rfl; have hcz87_4 : w86.cell? ⟨gb165, 4, none⟩ = some (.int .i64 x8_1) := (blk_cell BK165.out 4).trans rfl; have hfz87_0 := blk_frozen BK165.out 0; have hfz87_1 := blk_frozen BK165.out 1; have hfz87_2 := blk_frozen BK165.out 2; have hfz87_3 := blk_frozen BK165.out 3; have hfz87_4 := blk_frozen BK165.out 4))
                                go_roundg kj7
                                case measure => have := HK1.out; have := HJ7.out; omega
                                case rel => exact ⟨(y185), (x7_1), (wrap64 (x8_1 + 1)), (x9_1), (wrap64 (x10_1 + ((a0.extract (x10_1 : Int).toNat ((wrap64 (x10_1 + t160)) : Int).toNat).size : Int))), (by first | rfl | (simp; done) | (simp [*]; done)), (by first | rfl | (simp; done) | (simp [*]; done)), (by first | rfl | (simp; done) | (simp [*]; done)), (by first | rfl | (simp; done) | (simp [*]; done)), H', ⟨by have := HK1.out; have := HJ7.out; omega⟩, ⟨by (with_reducible repeat (first | apply Kd.R_alloc | apply Kd.R_drewN | apply Kd.R_drew)); exact Kd.R_mono HO187.out (fun _ hk => trivial)⟩, ⟨by repeat (first | (with_reducible first | exact HB.out | apply below_alloc | apply pw_below_drewN | apply below_drew1 | refine below_set ?_ GE165.out) | exact HB.out)⟩⟩
                              · rw [if_neg c83] at H
                                exact absurd H (by simp)
                            · replace c82 := Bool.eq_false_iff.mpr c82
                              subst c82
                              have H1 : (some (([] : List (S89)), x7_1, x8_1, 6)) = some (r1, r2, r3, r4) := by rw [if_neg (show ¬ (false = true) by decide)] at H; exact H
                              clear H
                              have H := H1
                              clear H1
                              simp only [Option.some.injEq, Prod.mk.injEq] at H
                              obtain ⟨rfl, rfl, rfl, rfl⟩ := H
                              go_wp2_with (first | ((with_reducible refine gate_dst (N := 13) rfl ?_); refine box_event ?hg (N := 13) ?hd (cs := #[.int .i64 0, .string (⟨#[]⟩ : ByteArray), .int .i64 0, .int .i64 0, .int .i64 0]) (t := 89) ?hr ?_; (case hd => rfl); (case hg => rfl); (case hr => first | (go_simp; done) | (go_simp; rfl)); intro gb165 hg w88 hbox hb; have n0_ := Aside0.mk (Kd.R_below (Kd.R_elderB (by (with_reducible repeat (first | apply Kd.R_alloc | apply Kd.R_drewN | apply Kd.R_drew)); exact HO_6.out) gb165 (Nat.le_of_eq hg.symm)) hb); have n1_ := Aside0.mk (below_step (by repeat (first | (with_reducible first | exact HB.out | apply below_alloc | apply pw_below_drewN | apply below_drew1) | exact HB.out)) hb); have n2_ := Aside0.mk (hbox); have n3_ := Aside0.mk ((by rw [hg]; exact (below_size (by repeat (first | (with_reducible first | exact HB.out | apply below_alloc | apply pw_below_drewN | apply below_drew1) | exact HB.out))) : w.heap.size ≤ gb165)); have n4_ := Aside0.mk ((by rw [hg]; exact (below_size (by repeat (first | (with_reducible first | exact HB.out | apply below_alloc | apply pw_below_drewN | apply below_drew1) | exact HB.out))) : w.heap.size ≤ gb165)); clear HO_6; clear HB; have HO_6 := n0_; have HB := n1_; have BK165 := n2_; have GW165 := n3_; have GE165 := n4_; clear n0_ n1_ n2_ n3_ n4_; clear hb hbox hg; have hcz89_0 : w88.cell? ⟨gb165, 0, none⟩ = some (.int .i64 0) := (blk_cell BK165.out 0).trans rfl; have hcz89_1 : w88.cell? ⟨gb165, 1, none⟩ = some (.string (⟨#[]⟩ : ByteArray)) := (blk_cell BK165.out 1).trans rfl; have hcz89_2 : w88.cell? ⟨gb165, 2, none⟩ = some (.int .i64 0) := (blk_cell BK165.out 2).trans rfl; have hcz89_3 : w88.cell? ⟨gb165, 3, none⟩ = some (.int .i64 0) := (blk_cell BK165.out 3).trans rfl; have hcz89_4 : w88.cell? ⟨gb165, 4, none⟩ = some (.int .i64 0) := (blk_cell BK165.out 4).trans rfl; have hfz89_0 := blk_frozen BK165.out 0; have hfz89_1 := blk_frozen BK165.out 1; have hfz89_2 := blk_frozen BK165.out 2; have hfz89_3 := blk_frozen BK165.out 3; have hfz89_4 := blk_frozen BK165.out 4) | ((with_reducible refine gate_callee (f := 62) rfl ?_); refine goesL_ (some 78) rfl rfl Tryd.func62 (by kernel_rfl) rfl #[.string a0, .int .i64 x10_1] rfl (by (try simp only [List.map_toArray, List.map_cons, List.map_nil]); first | done | rfl | (simp only [List.length_drop, List.length_take]; rfl)) ?_; (with_reducible refine (intarsiaref01_numbers.calls kj7 a0 x10_1 t166 _ A17.out).mono ?_); rintro e w' ⟨rfl, ⟨nd, rfl⟩⟩; refine ⟨_, rfl, ?_⟩) | ((with_reducible refine gate_callee (f := 64) rfl ?_); refine goesL_ (some 127) rfl rfl Tryd.func64 (by kernel_rfl) rfl #[.int .i32 t159] rfl (by (try simp only [List.map_toArray, List.map_cons, List.map_nil]); first | done | rfl | (simp only [List.length_drop, List.length_take]; rfl)) ?_; (with_reducible refine (intarsiaref01_Letter.calls t159 false _ A62.out).mono ?_); rintro e w' ⟨rfl, ⟨nd, rfl⟩⟩; refine ⟨_, rfl, ?_⟩) | ((with_reducible refine gate_callee (f := 66) rfl ?_); refine goesL_ (some 149) rfl rfl Tryd.func66 (by kernel_rfl) rfl #[.int .i32 t159] rfl (by (try simp only [List.map_toArray, List.map_cons, List.map_nil]); first | done | rfl | (simp only [List.length_drop, List.length_take]; rfl)) ?_; (with_reducible refine (intarsiaref01_Sign.calls t159 false _ A81.out).mono ?_); rintro e w' ⟨rfl, ⟨nd, rfl⟩⟩; refine ⟨_, rfl, ?_⟩))
                              refine bodyPost_ret (results_list (rs := [.tmp 2, .tmp 3, .tmp 4, .tmp 5]) rfl (by simp) (.tmp (.tmp (.tmp (.tmp .nil))))) rfl ?_
                              exact ⟨_, by first | rfl | (simp [errW_none, errW_some] <;> rfl) | (simp [*, errW_none, errW_some] <;> rfl), by first | exact Kd.R_nil _ _ _ _ _ | exact Kd.N_nil _ _ _ _ _ | exact Kd.V_nil _ _ _ _ _ | exact Kd.Q_nil _ _ _ _ _ | exact Kd.S_nil _ _ _ _ _, by repeat (first | (with_reducible first | exact HB.out | apply below_alloc | apply pw_below_drewN | apply below_drew1 | refine below_set ?_ GE165.out) | exact HB.out)⟩
                      · rw [if_neg c16] at H
                        exact absurd H (by simp)
                    · rw [if_neg c15] at H
                      exact absurd H (by simp)
                  · rw [if_neg c14] at H
                    exact absurd H (by simp)
      · rw [if_neg c2] at H
        have c2b0 : decide (x10_1 < (a0.size : Int)) = false := decide_eq_false c2
        clear c2
        simp only [Option.some.injEq, Prod.mk.injEq] at H
        obtain ⟨rfl, rfl, rfl, rfl⟩ := H
        go_wp2
        refine bodyPost_ret (results_list (rs := [.tmp 2, .tmp 3, .tmp 4, .tmp 5]) rfl (by simp) (.tmp (.tmp (.tmp (.tmp .nil))))) rfl ?_
        exact ⟨_, by first | rfl | (simp [errW_none, errW_some] <;> rfl) | (simp [*, errW_none, errW_some] <;> rfl), by (with_reducible repeat (first | apply Kd.R_alloc | apply Kd.R_drewN | apply Kd.R_drew)); exact HO_6.out, by repeat (first | (with_reducible first | exact HB.out | apply below_alloc | apply pw_below_drewN | apply below_drew1) | exact HB.out)⟩

end Go.Proofs.YtoibcaoaljglbaaDoor.Ref
