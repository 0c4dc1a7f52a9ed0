/- The document's reader (intarsiaref01.Read): its contract, as the kit's tool printed it for this claim. -/
import Derived.Test.YtfpjdgobannneaaGreatDoorRefPa
namespace Go.Proofs.YtfpjdgobannneaaGreatDoor.Ref
open Go.RowKit Go.Proofs.YtfpjdgobannneaaGreatDoorW.PrintWords Go.Proofs.YtfpjdgobannneaaGreatDoorW.PrintLast Go.Proofs.YtfpjdgobannneaaGreatDoorW.PrintMore
attribute [local go_sem] max2_int min2_int max_two min_two max_three min_three max_four min_four   -- for this text's walks alone
set_option linter.unusedVariables false
set_option linter.unusedSimpArgs false

/-! ### intarsiaref01_Read: function 60 -/
mutual
def intarsiaref01_Read.l0 : Nat → ByteArray → List (S123) → Int → Int → Bool → Int → Option ((List (S123)) × Int × Int × Int)
  | 0, _, _, _, _, _, _ => none
  | k + 1, x0, x6, x7, x8, x9, x10 => if x10 < (x0.size : Int) then ((intarsiaref01_at.f k x0 x10).bind fun bt185 => (if bt185.2 = 0 then (some (([] : List (S123)), x7, x8, 6)) else (if bt185.1 = 10 then (if x6.length < 2932031007402 then (intarsiaref01_Read.l0 k x0 (x6 ++ [(⟨4, (⟨#[]⟩ : ByteArray), 0, x7, x8⟩ : S123)]) (wrap64 (x7 + 1)) 1 false (wrap64 (x10 + 1))) else (none)) else (if x9 = true then (intarsiaref01_Read.j1 k x0 x6 x7 x8 x9 x10 bt185.1 bt185.2 true) else ((intarsiaref01_blank.f bt185.1).bind fun t190 => (if t190 = true then (intarsiaref01_Read.j1 k x0 x6 x7 x8 x9 x10 bt185.1 bt185.2 true) else (intarsiaref01_Read.j1 k x0 x6 x7 x8 x9 x10 bt185.1 bt185.2 (bt185.1 == 59)))))))) else (some (x6, 0, 0, 0))
def intarsiaref01_Read.j1 : Nat → ByteArray → List (S123) → Int → Int → Bool → Int → Int → Int → Bool → Option ((List (S123)) × Int × Int × Int)
  | 0, _, _, _, _, _, _, _, _, _ => none
  | k + 1, x0, x6, x7, x8, x9, x10, x11, x12, x56 => if x56 = true then (if x9 = true then (intarsiaref01_Read.l0 k x0 x6 x7 (wrap64 (x8 + 1)) true (wrap64 (x10 + x12))) else (intarsiaref01_Read.l0 k x0 x6 x7 (wrap64 (x8 + 1)) (x11 == 59) (wrap64 (x10 + x12)))) else (if 0 ≤ x10 then (if x10 ≤ (wrap64 (x10 + x12)) then (if (wrap64 (x10 + x12)) ≤ (x0.size : Int) then ((intarsiaref01_numbers.f k x0 x10).bind fun t192 => (if t192 > 0 then (if x10 ≤ (wrap64 (x10 + t192)) then (if (wrap64 (x10 + t192)) ≤ (x0.size : Int) then ((intarsiaref01_value.f k (x0.extract (x10 : Int).toNat ((wrap64 (x10 + t192)) : Int).toNat)).bind fun bt193 => (if bt193.2 = true then ((intarsiaref01_at.f k x0 (wrap64 (x10 + t192))).bind fun bt195 => (if bt195.2 > 0 then ((intarsiaref01_Letter.f bt195.1).bind fun t197 => (if t197 = true then (some (([] : List (S123)), x7, wrap64 (x8 + t192), 6)) else (if x6.length < 2932031007402 then (intarsiaref01_Read.l0 k x0 (x6 ++ [(⟨2, x0.extract (x10 : Int).toNat ((wrap64 (x10 + t192)) : Int).toNat, bt193.1, x7, x8⟩ : S123)]) x7 (wrap64 (x8 + t192)) x9 (wrap64 (x10 + ((x0.extract (x10 : Int).toNat ((wrap64 (x10 + t192)) : Int).toNat).size : Int)))) else (none)))) else (if x6.length < 2932031007402 then (intarsiaref01_Read.l0 k x0 (x6 ++ [(⟨2, x0.extract (x10 : Int).toNat ((wrap64 (x10 + t192)) : Int).toNat, bt193.1, x7, x8⟩ : S123)]) x7 (wrap64 (x8 + t192)) x9 (wrap64 (x10 + ((x0.extract (x10 : Int).toNat ((wrap64 (x10 + t192)) : Int).toNat).size : Int)))) else (none)))) else (some (([] : List (S123)), x7, x8, 3)))) else (none)) else (none)) else ((intarsiaref01_Letter.f x11).bind fun t204 => (if t204 = true then ((intarsiaref01_run.f k x0 x10 false).bind fun bt205 => (if bt205.2 > 16 then (some (([] : List (S123)), x7, x8, 3)) else (if x10 ≤ (wrap64 (x10 + bt205.1)) then (if (wrap64 (x10 + bt205.1)) ≤ (x0.size : Int) then (if x6.length < 2932031007402 then (intarsiaref01_Read.l0 k x0 (x6 ++ [(⟨1, x0.extract (x10 : Int).toNat ((wrap64 (x10 + bt205.1)) : Int).toNat, 0, x7, x8⟩ : S123)]) x7 (wrap64 (x8 + bt205.2)) x9 (wrap64 (x10 + ((x0.extract (x10 : Int).toNat ((wrap64 (x10 + bt205.1)) : Int).toNat).size : Int)))) else (none)) else (none)) else (none)))) else ((intarsiaref01_Sign.f x11).bind fun t210 => (if t210 = true then (if x6.length < 2932031007402 then (intarsiaref01_Read.l0 k x0 (x6 ++ [(⟨3, x0.extract (x10 : Int).toNat ((wrap64 (x10 + x12)) : Int).toNat, 0, x7, x8⟩ : S123)]) x7 (wrap64 (x8 + 1)) x9 (wrap64 (x10 + ((x0.extract (x10 : Int).toNat ((wrap64 (x10 + x12)) : Int).toNat).size : Int)))) else (none)) else (some (([] : List (S123)), x7, x8, 6)))))))) else (none)) else (none)) else (none))
end
def intarsiaref01_Read.f (k : Nat) (a0 : ByteArray) : Option ((List (S123)) × Int × Int × Int) := intarsiaref01_Read.l0 k a0 ([] : List (S123)) 1 1 false 0
theorem intarsiaref01_Read.mono_l : ∀ k, (∀ y0 y1 y2 y3 y4 y5, LeO (intarsiaref01_Read.l0 k y0 y1 y2 y3 y4 y5) (intarsiaref01_Read.l0 (k + 1) y0 y1 y2 y3 y4 y5)) ∧ (∀ y0 y1 y2 y3 y4 y5 y6 y7 y8, LeO (intarsiaref01_Read.j1 k y0 y1 y2 y3 y4 y5 y6 y7 y8) (intarsiaref01_Read.j1 (k + 1) y0 y1 y2 y3 y4 y5 y6 y7 y8))
  | 0 => ⟨fun _ _ _ _ _ _ r h => by simp [intarsiaref01_Read.l0] at h, fun _ _ _ _ _ _ _ _ _ r h => by simp [intarsiaref01_Read.j1] at h⟩
  | k + 1 => by
    obtain ⟨ih0, ih1⟩ := intarsiaref01_Read.mono_l k
    refine ⟨?_, ?_⟩
    · intro y0 y1 y2 y3 y4 y5
      unfold intarsiaref01_Read.l0
      repeat' first
      | (with_reducible exact ih0 _ _ _ _ _ _)
      | (with_reducible exact ih1 _ _ _ _ _ _ _ _ _)
      | (with_reducible exact intarsiaref01_at.mono _ _ _)
      | (with_reducible exact intarsiaref01_numbers.mono _ _ _)
      | (with_reducible exact intarsiaref01_run.mono _ _ _ _)
      | (with_reducible exact intarsiaref01_value.mono _ _)
      | (with_reducible exact LeO.refl _)
      | (with_reducible exact LeO.none _)
      | (with_reducible refine LeO.ite ?_ ?_)
      | (with_reducible refine LeO.bind ?_ (fun _ => ?_))
      | exact ih0 _ _ _ _ _ _
      | exact ih1 _ _ _ _ _ _ _ _ _
      | exact intarsiaref01_at.mono _ _ _
      | exact intarsiaref01_numbers.mono _ _ _
      | exact intarsiaref01_run.mono _ _ _ _
      | exact intarsiaref01_value.mono _ _
      | exact LeO.none _
      | refine LeO.ite ?_ ?_
      | refine LeO.bind ?_ (fun _ => ?_)
    · intro y0 y1 y2 y3 y4 y5 y6 y7 y8
      unfold intarsiaref01_Read.j1
      repeat' first
      | (with_reducible exact ih0 _ _ _ _ _ _)
      | (with_reducible exact ih1 _ _ _ _ _ _ _ _ _)
      | (with_reducible exact intarsiaref01_at.mono _ _ _)
      | (with_reducible exact intarsiaref01_numbers.mono _ _ _)
      | (with_reducible exact intarsiaref01_run.mono _ _ _ _)
      | (with_reducible exact intarsiaref01_value.mono _ _)
      | (with_reducible exact LeO.refl _)
      | (with_reducible exact LeO.none _)
      | (with_reducible refine LeO.ite ?_ ?_)
      | (with_reducible refine LeO.bind ?_ (fun _ => ?_))
      | exact ih0 _ _ _ _ _ _
      | exact ih1 _ _ _ _ _ _ _ _ _
      | exact intarsiaref01_at.mono _ _ _
      | exact intarsiaref01_numbers.mono _ _ _
      | exact intarsiaref01_run.mono _ _ _ _
      | exact intarsiaref01_value.mono _ _
      | exact LeO.none _
      | refine LeO.ite ?_ ?_
      | refine LeO.bind ?_ (fun _ => ?_)
theorem intarsiaref01_Read.mono : ∀ a0 k, LeO (intarsiaref01_Read.f k a0) (intarsiaref01_Read.f (k + 1) a0) := by
  intro a0 k
  obtain ⟨ih0, ih1⟩ := intarsiaref01_Read.mono_l k
  unfold intarsiaref01_Read.f
  repeat' first
      | (with_reducible exact ih0 _ _ _ _ _ _)
      | (with_reducible exact ih1 _ _ _ _ _ _ _ _ _)
      | (with_reducible exact intarsiaref01_at.mono _ _ _)
      | (with_reducible exact intarsiaref01_numbers.mono _ _ _)
      | (with_reducible exact intarsiaref01_run.mono _ _ _ _)
      | (with_reducible exact intarsiaref01_value.mono _ _)
      | (with_reducible exact LeO.refl _)
      | (with_reducible exact LeO.none _)
      | (with_reducible refine LeO.ite ?_ ?_)
      | (with_reducible refine LeO.bind ?_ (fun _ => ?_))
      | exact ih0 _ _ _ _ _ _
      | exact ih1 _ _ _ _ _ _ _ _ _
      | exact intarsiaref01_at.mono _ _ _
      | exact intarsiaref01_numbers.mono _ _ _
      | exact intarsiaref01_run.mono _ _ _ _
      | exact intarsiaref01_value.mono _ _
      | exact LeO.none _
      | refine LeO.ite ?_ ?_
      | refine LeO.bind ?_ (fun _ => ?_)
def intarsiaref01_Read.T26 : Bool × List (List Nat × List Nat) := (true, [([], []), ([], []), ([], []), ([], []), ([2, 3], [2, 3]), ([0, 1, 4], [0, 1, 4]), ([], []), ([], []), ([], []), ([8], [8]), ([0, 1, 2, 3, 4, 5, 8, 9], []), ([10, 5, 9, 0, 1, 2, 3, 4, 5, 8, 9], [5, 10]), ([0, 1, 2, 3, 4, 5, 6, 8, 9, 10, 11], []), ([12, 6, 11, 0, 1, 2, 3, 4, 5, 6, 8, 9, 10, 11], [6, 12]), ([7, 13, 0, 1, 2, 3, 4, 5, 6, 7, 8, 9, 10, 11, 12, 13], [7])])
def intarsiaref01_Read.B26 : List Nat := [0, 0, 0, 0, 12, 31, 0, 0, 0, 256, 831, 1855, 3967, 8063, 16383]
theorem intarsiaref01_Read.tab26 : rtab .any (opsOf Tryz.f60 26) = intarsiaref01_Read.T26 := by kernel_rfl
theorem intarsiaref01_Read.bits26 : waitsOk intarsiaref01_Read.T26.2 intarsiaref01_Read.B26 = true := by kernel_rfl
def intarsiaref01_Read.T34 : Bool × List (List Nat × List Nat) := (true, [([], []), ([], []), ([], []), ([], []), ([2, 3], [2, 3]), ([0, 1, 4], [0, 1, 4]), ([], []), ([], []), ([7], [7]), ([0, 1, 2, 3, 4, 5, 7, 8], []), ([9, 5, 8, 0, 1, 2, 3, 4, 5, 7, 8], [5, 9]), ([6, 10, 0, 1, 2, 3, 4, 5, 6, 7, 8, 9, 10], [6])])
def intarsiaref01_Read.B34 : List Nat := [0, 0, 0, 0, 12, 31, 0, 0, 128, 447, 959, 2047]
theorem intarsiaref01_Read.tab34 : rtab .any (opsOf Tryz.f60 34) = intarsiaref01_Read.T34 := by kernel_rfl
theorem intarsiaref01_Read.bits34 : waitsOk intarsiaref01_Read.T34.2 intarsiaref01_Read.B34 = true := by kernel_rfl
set_option maxHeartbeats 8000000 in
set_option maxRecDepth 100000 in
theorem intarsiaref01_Read.calls (k : Nat) (a0 : ByteArray) (r1 : List (S123)) (r2 : Int) (r3 : Int) (r4 : Int) (w : World) (h : intarsiaref01_Read.f k a0 = some (r1, r2, r3, r4)) :
    Calls Tryz.prog 60 #[.string a0] w fun e w' => ∃ v0_ : Value, e = .returned (.tuple #[v0_, .int .i64 r2, .int .i64 r3, .int .i64 r4]) ∧ Kd.R k123 123 w' w.heap.size (fun _ => True) v0_ r1 ∧ Below w.heap.size w w' := by
  have hu123 := Tryz.underlying123
  have HB := Aside0.mk (Below.refl w.heap.size w)
  have H : (intarsiaref01_Read.l0 k a0 ([] : List (S123)) 1 1 false 0) = some (r1, r2, r3, r4) := h
  clear h
  have H' := Aside0.mk H
  clear H
  go_enter Tryz.func60, Tryz.ntmps60
  go_wp2
  go_loopg [6, 7, 8, 9, 10] k (fun kq v6 v7 v8 v9 v10 w' => ∃ (x6_1 : List (S123)) (x7_1 : Int) (x8_1 : Int) (x9_1 : Bool) (x10_1 : Int), v7 = .int .i64 x7_1 ∧ v8 = .int .i64 x8_1 ∧ v9 = .bool x9_1 ∧ v10 = .int .i64 x10_1 ∧ Aside0 (intarsiaref01_Read.l0 kq a0 x6_1 x7_1 x8_1 x9_1 x10_1 = some (r1, r2, r3, r4)) ∧ Aside0 (kq ≤ k) ∧ Aside0 (Kd.R k123 123 w' w.heap.size (fun _ => True) v6 x6_1) ∧ Aside0 (Below w.heap.size w w'))
  case atStart => exact ⟨(([] : List (S123))), (1), (1), (false), (0), (by first | rfl | (simp; done) | (simp [*]; done)), (by first | rfl | (simp; done) | (simp [*]; done)), (by first | rfl | (simp; done) | (simp [*]; done)), (by first | rfl | (simp; done) | (simp [*]; done)), H', ⟨Nat.le_refl _⟩, ⟨by first | exact Kd.R_nil _ _ _ _ _ | exact Kd.N_nil _ _ _ _ _ | exact Kd.V_nil _ _ _ _ _ | exact Kd.Q_nil _ _ _ _ _ | exact Kd.S_nil _ _ _ _ _⟩, ⟨by repeat (first | (with_reducible first | exact HB.out | apply below_alloc | apply pw_below_drewN | apply below_drew1) | exact HB.out)⟩⟩
  case round =>
    clear H'
    obtain ⟨x6_1, x7_1, x8_1, x9_1, x10_1, rfl, rfl, rfl, rfl, HA, HK1, HO_6, HB⟩ := hrel
    cases gk with
    | zero => exact absurd HA.out (by simp [intarsiaref01_Read.l0])
    | succ k1 =>
      have H := HA.out
      clear HA
      simp only [intarsiaref01_Read.l0] at H
      by_cases c2 : x10_1 < (a0.size : Int)
      · rw [if_pos c2] at H
        have c2b0 : decide (x10_1 < (a0.size : Int)) = true := decide_eq_true c2
        clear c2
        replace H := Option.bind_eq_some_iff.mp H
        obtain ⟨⟨t185, t186⟩, A30, H⟩ := H
        replace H : (if t186 = 0 then (some (([] : List (S123)), x7_1, x8_1, 6)) else (if t185 = 10 then (if x6_1.length < 2932031007402 then (intarsiaref01_Read.l0 k1 a0 (x6_1 ++ [(⟨4, (⟨#[]⟩ : ByteArray), 0, x7_1, x8_1⟩ : S123)]) (wrap64 (x7_1 + 1)) 1 false (wrap64 (x10_1 + 1))) else (none)) else (if x9_1 = true then (intarsiaref01_Read.j1 k1 a0 x6_1 x7_1 x8_1 x9_1 x10_1 t185 t186 true) else ((intarsiaref01_blank.f t185).bind fun t190 => (if t190 = true then (intarsiaref01_Read.j1 k1 a0 x6_1 x7_1 x8_1 x9_1 x10_1 t185 t186 true) else (intarsiaref01_Read.j1 k1 a0 x6_1 x7_1 x8_1 x9_1 x10_1 t185 t186 (t185 == 59))))))) = some (r1, r2, r3, r4) := H
        have A3 := Aside0.mk A30
        clear A30
        by_cases c4 : t186 = 0
        · rw [if_pos c4] at H
          have c4b0 : (t186 == 0) = true := beq_iff_eq.mpr c4
          have c4b1 : (t186 != 0) = false := bne_eq_false_iff_eq.mpr c4
          clear c4
          simp only [Option.some.injEq, Prod.mk.injEq] at H
          obtain ⟨rfl, rfl, rfl, rfl⟩ := H
          go_wp2_with (first | ((with_reducible refine gate_callee (f := 95) rfl ?_); refine goesL_ (some 29) rfl rfl Tryz.func95 (by kernel_rfl) rfl #[.string a0, .int .i64 x10_1] rfl (by (try simp only [List.map_toArray, List.map_cons, List.map_nil]); first | done | rfl | (simp only [List.length_drop, List.length_take]; rfl)) ?_; (with_reducible refine (intarsiaref01_at.calls k1 a0 x10_1 t185 t186 _ A3.out).mono ?_); rintro e w' ⟨rfl, ⟨nd, rfl⟩⟩; refine ⟨_, rfl, ?_⟩))
          refine bodyPost_ret (results_list (rs := [.tmp 2, .tmp 3, .tmp 4, .tmp 5]) rfl (by simp) (.tmp (.tmp (.tmp (.tmp .nil))))) rfl ?_
          exact ⟨_, by first | rfl | (simp [errW_none, errW_some] <;> rfl) | (simp [*, errW_none, errW_some] <;> rfl), by first | exact Kd.R_nil _ _ _ _ _ | exact Kd.N_nil _ _ _ _ _ | exact Kd.V_nil _ _ _ _ _ | exact Kd.Q_nil _ _ _ _ _ | exact Kd.S_nil _ _ _ _ _, by repeat (first | (with_reducible first | exact HB.out | apply below_alloc | apply pw_below_drewN | apply below_drew1) | exact HB.out)⟩
        · rw [if_neg c4] at H
          have c4b0 : (t186 == 0) = false := beq_eq_false_iff_ne.mpr c4
          have c4b1 : (t186 != 0) = true := bne_iff_ne.mpr c4
          by_cases c5 : t185 = 10
          · rw [if_pos c5] at H
            have c5b0 : (t185 == 10) = true := beq_iff_eq.mpr c5
            have c5b1 : (t185 != 10) = false := bne_eq_false_iff_eq.mpr c5
            clear c5
            by_cases c6 : x6_1.length < 2932031007402
            · rw [if_pos c6] at H
              have LMc6 := Aside0.mk c6
              clear c6
              obtain ⟨y187, hy187⟩ : ∃ y_ : List (S123), y_ = (x6_1 ++ [(⟨4, (⟨#[]⟩ : ByteArray), 0, x7_1, x8_1⟩ : S123)]) := ⟨_, rfl⟩
              replace H : (intarsiaref01_Read.l0 k1 a0 y187 (wrap64 (x7_1 + 1)) 1 false (wrap64 (x10_1 + 1))) = some (r1, r2, r3, r4) := by first | (rw [hy187]; with_reducible exact H) | (have H2_ := (Option.bind_some _ _).symm.trans H; rw [hy187]; with_reducible exact H2_) | (have H2_ := (Option.bind_some _ _).symm.trans H; with_reducible exact H2_) | with_reducible exact H | (rw [hy187]; exact H) | exact H
              have Ny187 := Aside0.mk hy187
              clear hy187
              have H' := Aside0.mk H
              clear H
              go_wp2_with (first | ((with_reducible refine gate_callee (f := 95) rfl ?_); refine goesL_ (some 29) rfl rfl Tryz.func95 (by kernel_rfl) rfl #[.string a0, .int .i64 x10_1] rfl (by (try simp only [List.map_toArray, List.map_cons, List.map_nil]); first | done | rfl | (simp only [List.length_drop, List.length_take]; rfl)) ?_; (with_reducible refine (intarsiaref01_at.calls k1 a0 x10_1 t185 t186 _ A3.out).mono ?_); rintro e w' ⟨rfl, ⟨nd, rfl⟩⟩; refine ⟨_, rfl, ?_⟩) | ((with_reducible refine gate_builtin (b := .append) (xs := #[.tmp 38, .tmp 42]) rfl ?_); at_builtin; refine Kd.R_append k123 (w0 := w) w.heap.size rfl (.tmp 38) (.tmp 42) 117 123 (.agg #[(.int .i64 0), (.string ⟨#[]⟩), (.int .i64 0), (.int .i64 0), (.int .i64 0)]) 48 rfl Tryz.underlying117 info123 rfl (by decide) (by omega) u6 x6_1 (⟨4, (⟨#[]⟩ : ByteArray), 0, x7_1, x8_1⟩ : S123) [.int .i64 4, .string (⟨#[]⟩ : ByteArray), .int .i64 0, .int .i64 x7_1, .int .i64 x8_1] (fun _ => True) (fun _ => False) rfl rfl ?aP (fun _ hk => hk.elim) ?aF ?aO ?aB ?aS ?aL ?_; (case aP => exact k123_mkM _ _ _ (⟨4, (⟨#[]⟩ : ByteArray), 0, x7_1, x8_1⟩ : S123)); (case aB => exact (by repeat (first | (with_reducible first | exact HB.out | apply below_alloc | apply pw_below_drewN | apply below_drew1) | exact HB.out))); (case aF => exact (fun _ _ => trivial)); (case aO => exact (by (with_reducible repeat (first | apply Kd.R_alloc | apply Kd.R_drewN | apply Kd.R_drew)); exact HO_6.out)); (case aS => exact (below_size (by repeat (first | (with_reducible first | exact HB.out | apply below_alloc | apply pw_below_drewN | apply below_drew1) | exact HB.out)))); (case aL => have := LMc6.out; omega); intro v188 w7 ho hb hg hat; rw [← Ny187.out] at ho; have n0_ := Aside0.mk (hb); have n1_ := Aside0.mk (ho); clear HB; clear HO_6; have HB := n0_; have HO189 := n1_; clear n0_ n1_; clear ho hb hg hat))
              go_roundg k1
              case measure => have := HK1.out; omega
              case rel => exact ⟨(y187), (wrap64 (x7_1 + 1)), (1), (false), (wrap64 (x10_1 + 1)), (by first | rfl | (simp; done) | (simp [*]; done)), (by first | rfl | (simp; done) | (simp [*]; done)), (by first | rfl | (simp; done) | (simp [*]; done)), (by first | rfl | (simp; done) | (simp [*]; done)), H', ⟨by have := HK1.out; omega⟩, ⟨by (with_reducible repeat (first | apply Kd.R_alloc | apply Kd.R_drewN | apply Kd.R_drew)); exact HO189.out⟩, ⟨by repeat (first | (with_reducible first | exact HB.out | apply below_alloc | apply pw_below_drewN | apply below_drew1) | exact HB.out)⟩⟩
            · rw [if_neg c6] at H
              exact absurd H (by simp)
          · rw [if_neg c5] at H
            have c5b0 : (t185 == 10) = false := beq_eq_false_iff_ne.mpr c5
            have c5b1 : (t185 != 10) = true := bne_iff_ne.mpr c5
            have HC8 := Aside0.mk H
            clear H
            go_upto_region 15 with (first | ((with_reducible refine gate_callee (f := 95) rfl ?_); refine goesL_ (some 29) rfl rfl Tryz.func95 (by kernel_rfl) rfl #[.string a0, .int .i64 x10_1] rfl (by (try simp only [List.map_toArray, List.map_cons, List.map_nil]); first | done | rfl | (simp only [List.length_drop, List.length_take]; rfl)) ?_; (with_reducible refine (intarsiaref01_at.calls k1 a0 x10_1 t185 t186 _ A3.out).mono ?_); rintro e w' ⟨rfl, ⟨nd, rfl⟩⟩; refine ⟨_, rfl, ?_⟩))
            (try simp only [Act.put, List.setIfInBounds_toArray, List.set_cons_zero, List.set_cons_succ])
            go_cut [56] (fun v56 wc => ∃ (kq : Nat) (x56_7 : Bool), v56 = .bool x56_7 ∧ Aside0 (intarsiaref01_Read.j1 kq a0 x6_1 x7_1 x8_1 x9_1 x10_1 t185 t186 x56_7 = some (r1, r2, r3, r4)) ∧ Aside0 (kq ≤ k1) ∧ Aside0 (Kd.R k123 123 wc w.heap.size (fun _ => True) u6 x6_1) ∧ Aside0 (Below w.heap.size w wc))
            case first =>
              have H := HC8.out
              clear HC8
              by_cases c9 : x9_1 = true
              · subst c9
                have H1 : (intarsiaref01_Read.j1 k1 a0 x6_1 x7_1 x8_1 true x10_1 t185 t186 true) = some (r1, r2, r3, r4) := by rw [if_pos rfl] at H; exact H
                clear H
                have H := H1
                clear H1
                have H' := Aside0.mk H
                clear H
                go_wp2
                go_meet
                case rel => exact ⟨_, (true), (by first | rfl | (simp; done) | (simp [*]; done)), H', ⟨by have := HK1.out; first | omega | exact Nat.le_refl _⟩, ⟨by (with_reducible repeat (first | apply Kd.R_alloc | apply Kd.R_drewN | apply Kd.R_drew)); exact HO_6.out⟩, ⟨by repeat (first | (with_reducible first | exact HB.out | apply below_alloc | apply pw_below_drewN | apply below_drew1) | exact HB.out)⟩⟩
              · replace c9 := Bool.eq_false_iff.mpr c9
                subst c9
                have H1 : ((intarsiaref01_blank.f t185).bind fun t190 => (if t190 = true then (intarsiaref01_Read.j1 k1 a0 x6_1 x7_1 x8_1 false x10_1 t185 t186 true) else (intarsiaref01_Read.j1 k1 a0 x6_1 x7_1 x8_1 false x10_1 t185 t186 (t185 == 59)))) = some (r1, r2, r3, r4) := by rw [if_neg (show ¬ (false = true) by decide)] at H; exact H
                clear H
                have H := H1
                clear H1
                replace H := Option.bind_eq_some_iff.mp H
                obtain ⟨t190, A100, H⟩ := H
                replace H : (if t190 = true then (intarsiaref01_Read.j1 k1 a0 x6_1 x7_1 x8_1 false x10_1 t185 t186 true) else (intarsiaref01_Read.j1 k1 a0 x6_1 x7_1 x8_1 false x10_1 t185 t186 (t185 == 59))) = some (r1, r2, r3, r4) := H
                have A10 := Aside0.mk A100
                clear A100
                by_cases c11 : t190 = true
                · subst c11
                  have H1 : (intarsiaref01_Read.j1 k1 a0 x6_1 x7_1 x8_1 false x10_1 t185 t186 true) = some (r1, r2, r3, r4) := by rw [if_pos rfl] at H; exact H
                  clear H
                  have H := H1
                  clear H1
                  have H' := Aside0.mk H
                  clear H
                  go_wp2_with (first | (go_at_call 96; (with_reducible refine (intarsiaref01_blank.calls t185 true _ A10.out).mono ?_); rintro e w' ⟨rfl, ⟨nd, rfl⟩⟩))
                  go_meet
                  case rel => exact ⟨_, (true), (by first | rfl | (simp; done) | (simp [*]; done)), H', ⟨by have := HK1.out; first | omega | exact Nat.le_refl _⟩, ⟨by (with_reducible repeat (first | apply Kd.R_alloc | apply Kd.R_drewN | apply Kd.R_drew)); exact HO_6.out⟩, ⟨by repeat (first | (with_reducible first | exact HB.out | apply below_alloc | apply pw_below_drewN | apply below_drew1) | exact HB.out)⟩⟩
                · replace c11 := Bool.eq_false_iff.mpr c11
                  subst c11
                  have H1 : (intarsiaref01_Read.j1 k1 a0 x6_1 x7_1 x8_1 false x10_1 t185 t186 (t185 == 59)) = some (r1, r2, r3, r4) := by rw [if_neg (show ¬ (false = true) by decide)] at H; exact H
                  clear H
                  have H := H1
                  clear H1
                  have H' := Aside0.mk H
                  clear H
                  go_wp2_with (first | (go_at_call 96; (with_reducible refine (intarsiaref01_blank.calls t185 false _ A10.out).mono ?_); rintro e w' ⟨rfl, ⟨nd, rfl⟩⟩))
                  go_meet
                  case rel => exact ⟨_, ((t185 == 59)), (by first | rfl | (simp; done) | (simp [*]; done)), H', ⟨by have := HK1.out; first | omega | exact Nat.le_refl _⟩, ⟨by (with_reducible repeat (first | apply Kd.R_alloc | apply Kd.R_drewN | apply Kd.R_drew)); exact HO_6.out⟩, ⟨by repeat (first | (with_reducible first | exact HB.out | apply below_alloc | apply pw_below_drewN | apply below_drew1) | exact HB.out)⟩⟩
            case rest =>
              clear HC8
              try clear c1
              try clear c2
              try clear c2b0
              try clear p2
              try clear c4
              try clear c4b0
              try clear c4b1
              try clear c5
              try clear c5b0
              try clear c5b1
              try clear c6
              try clear p6
              try clear c9
              try clear c11
              obtain ⟨kq, x56_7, rfl, HA, HJ7, HO_6, HB⟩ := hcut
              cases kq with
              | zero => exact absurd HA.out (by simp [intarsiaref01_Read.j1])
              | succ kj7 =>
                have H := HA.out
                clear HA
                simp only [intarsiaref01_Read.j1] at H
                by_cases c12 : x56_7 = true
                · subst c12
                  have H1 : (if x9_1 = true then (intarsiaref01_Read.l0 kj7 a0 x6_1 x7_1 (wrap64 (x8_1 + 1)) true (wrap64 (x10_1 + t186))) else (intarsiaref01_Read.l0 kj7 a0 x6_1 x7_1 (wrap64 (x8_1 + 1)) (t185 == 59) (wrap64 (x10_1 + t186)))) = some (r1, r2, r3, r4) := by rw [if_pos rfl] at H; exact H
                  clear H
                  have H := H1
                  clear H1
                  by_cases c13 : x9_1 = true
                  · subst c13
                    have H1 : (intarsiaref01_Read.l0 kj7 a0 x6_1 x7_1 (wrap64 (x8_1 + 1)) true (wrap64 (x10_1 + t186))) = some (r1, r2, r3, r4) := by rw [if_pos rfl] at H; exact H
                    clear H
                    have H := H1
                    clear H1
                    have H' := Aside0.mk H
                    clear H
                    go_wp2
                    go_roundg kj7
                    case measure => have := HK1.out; have := HJ7.out; omega
                    case rel => exact ⟨(x6_1), (x7_1), (wrap64 (x8_1 + 1)), (true), (wrap64 (x10_1 + t186)), (by first | rfl | (simp; done) | (simp [*]; done)), (by first | rfl | (simp; done) | (simp [*]; done)), (by first | rfl | (simp; done) | (simp [*]; done)), (by first | rfl | (simp; done) | (simp [*]; done)), H', ⟨by have := HK1.out; have := HJ7.out; omega⟩, ⟨by (with_reducible repeat (first | apply Kd.R_alloc | apply Kd.R_drewN | apply Kd.R_drew)); exact HO_6.out⟩, ⟨by repeat (first | (with_reducible first | exact HB.out | apply below_alloc | apply pw_below_drewN | apply below_drew1) | exact HB.out)⟩⟩
                  · replace c13 := Bool.eq_false_iff.mpr c13
                    subst c13
                    have H1 : (intarsiaref01_Read.l0 kj7 a0 x6_1 x7_1 (wrap64 (x8_1 + 1)) (t185 == 59) (wrap64 (x10_1 + t186))) = some (r1, r2, r3, r4) := by rw [if_neg (show ¬ (false = true) by decide)] at H; exact H
                    clear H
                    have H := H1
                    clear H1
                    have H' := Aside0.mk H
                    clear H
                    go_wp2
                    go_roundg kj7
                    case measure => have := HK1.out; have := HJ7.out; omega
                    case rel => exact ⟨(x6_1), (x7_1), (wrap64 (x8_1 + 1)), ((t185 == 59)), (wrap64 (x10_1 + t186)), (by first | rfl | (simp; done) | (simp [*]; done)), (by first | rfl | (simp; done) | (simp [*]; done)), (by first | rfl | (simp; done) | (simp [*]; done)), (by first | rfl | (simp; done) | (simp [*]; done)), H', ⟨by have := HK1.out; have := HJ7.out; omega⟩, ⟨by (with_reducible repeat (first | apply Kd.R_alloc | apply Kd.R_drewN | apply Kd.R_drew)); exact HO_6.out⟩, ⟨by repeat (first | (with_reducible first | exact HB.out | apply below_alloc | apply pw_below_drewN | apply below_drew1) | exact HB.out)⟩⟩
                · replace c12 := Bool.eq_false_iff.mpr c12
                  subst c12
                  have H1 : (if 0 ≤ x10_1 then (if x10_1 ≤ (wrap64 (x10_1 + t186)) then (if (wrap64 (x10_1 + t186)) ≤ (a0.size : Int) then ((intarsiaref01_numbers.f kj7 a0 x10_1).bind fun t192 => (if t192 > 0 then (if x10_1 ≤ (wrap64 (x10_1 + t192)) then (if (wrap64 (x10_1 + t192)) ≤ (a0.size : Int) then ((intarsiaref01_value.f kj7 (a0.extract (x10_1 : Int).toNat ((wrap64 (x10_1 + t192)) : Int).toNat)).bind fun bt193 => (if bt193.2 = true then ((intarsiaref01_at.f kj7 a0 (wrap64 (x10_1 + t192))).bind fun bt195 => (if bt195.2 > 0 then ((intarsiaref01_Letter.f bt195.1).bind fun t197 => (if t197 = true then (some (([] : List (S123)), x7_1, wrap64 (x8_1 + t192), 6)) else (if x6_1.length < 2932031007402 then (intarsiaref01_Read.l0 kj7 a0 (x6_1 ++ [(⟨2, a0.extract (x10_1 : Int).toNat ((wrap64 (x10_1 + t192)) : Int).toNat, bt193.1, x7_1, x8_1⟩ : S123)]) x7_1 (wrap64 (x8_1 + t192)) x9_1 (wrap64 (x10_1 + ((a0.extract (x10_1 : Int).toNat ((wrap64 (x10_1 + t192)) : Int).toNat).size : Int)))) else (none)))) else (if x6_1.length < 2932031007402 then (intarsiaref01_Read.l0 kj7 a0 (x6_1 ++ [(⟨2, a0.extract (x10_1 : Int).toNat ((wrap64 (x10_1 + t192)) : Int).toNat, bt193.1, x7_1, x8_1⟩ : S123)]) x7_1 (wrap64 (x8_1 + t192)) x9_1 (wrap64 (x10_1 + ((a0.extract (x10_1 : Int).toNat ((wrap64 (x10_1 + t192)) : Int).toNat).size : Int)))) else (none)))) else (some (([] : List (S123)), x7_1, x8_1, 3)))) else (none)) else (none)) else ((intarsiaref01_Letter.f t185).bind fun t204 => (if t204 = true then ((intarsiaref01_run.f kj7 a0 x10_1 false).bind fun bt205 => (if bt205.2 > 16 then (some (([] : List (S123)), x7_1, x8_1, 3)) else (if x10_1 ≤ (wrap64 (x10_1 + bt205.1)) then (if (wrap64 (x10_1 + bt205.1)) ≤ (a0.size : Int) then (if x6_1.length < 2932031007402 then (intarsiaref01_Read.l0 kj7 a0 (x6_1 ++ [(⟨1, a0.extract (x10_1 : Int).toNat ((wrap64 (x10_1 + bt205.1)) : Int).toNat, 0, x7_1, x8_1⟩ : S123)]) x7_1 (wrap64 (x8_1 + bt205.2)) x9_1 (wrap64 (x10_1 + ((a0.extract (x10_1 : Int).toNat ((wrap64 (x10_1 + bt205.1)) : Int).toNat).size : Int)))) else (none)) else (none)) else (none)))) else ((intarsiaref01_Sign.f t185).bind fun t210 => (if t210 = true then (if x6_1.length < 2932031007402 then (intarsiaref01_Read.l0 kj7 a0 (x6_1 ++ [(⟨3, a0.extract (x10_1 : Int).toNat ((wrap64 (x10_1 + t186)) : Int).toNat, 0, x7_1, x8_1⟩ : S123)]) x7_1 (wrap64 (x8_1 + 1)) x9_1 (wrap64 (x10_1 + ((a0.extract (x10_1 : Int).toNat ((wrap64 (x10_1 + t186)) : Int).toNat).size : Int)))) else (none)) else (some (([] : List (S123)), x7_1, x8_1, 6)))))))) else (none)) else (none)) else (none)) = some (r1, r2, r3, r4) := by rw [if_neg (show ¬ (false = true) by decide)] at H; exact H
                  clear H
                  have H := H1
                  clear H1
                  by_cases c14 : 0 ≤ x10_1
                  · rw [if_pos c14] at H
                    have c14b0 := eq_true c14
                    have c14b1 : decide (0 ≤ x10_1) = true := decide_eq_true c14
                    clear c14
                    by_cases c15 : x10_1 ≤ (wrap64 (x10_1 + t186))
                    · rw [if_pos c15] at H
                      have c15b0 := eq_true c15
                      have c15b1 : decide (x10_1 ≤ (wrap64 (x10_1 + t186))) = true := decide_eq_true c15
                      by_cases c16 : (wrap64 (x10_1 + t186)) ≤ (a0.size : Int)
                      · rw [if_pos c16] at H
                        have c16b0 := eq_true c16
                        have c16b1 : decide ((wrap64 (x10_1 + t186)) ≤ (a0.size : Int)) = true := decide_eq_true c16
                        replace H := Option.bind_eq_some_iff.mp H
                        obtain ⟨t192, A170, H⟩ := H
                        replace H : (if t192 > 0 then (if x10_1 ≤ (wrap64 (x10_1 + t192)) then (if (wrap64 (x10_1 + t192)) ≤ (a0.size : Int) then ((intarsiaref01_value.f kj7 (a0.extract (x10_1 : Int).toNat ((wrap64 (x10_1 + t192)) : Int).toNat)).bind fun bt193 => (if bt193.2 = true then ((intarsiaref01_at.f kj7 a0 (wrap64 (x10_1 + t192))).bind fun bt195 => (if bt195.2 > 0 then ((intarsiaref01_Letter.f bt195.1).bind fun t197 => (if t197 = true then (some (([] : List (S123)), x7_1, wrap64 (x8_1 + t192), 6)) else (if x6_1.length < 2932031007402 then (intarsiaref01_Read.l0 kj7 a0 (x6_1 ++ [(⟨2, a0.extract (x10_1 : Int).toNat ((wrap64 (x10_1 + t192)) : Int).toNat, bt193.1, x7_1, x8_1⟩ : S123)]) x7_1 (wrap64 (x8_1 + t192)) x9_1 (wrap64 (x10_1 + ((a0.extract (x10_1 : Int).toNat ((wrap64 (x10_1 + t192)) : Int).toNat).size : Int)))) else (none)))) else (if x6_1.length < 2932031007402 then (intarsiaref01_Read.l0 kj7 a0 (x6_1 ++ [(⟨2, a0.extract (x10_1 : Int).toNat ((wrap64 (x10_1 + t192)) : Int).toNat, bt193.1, x7_1, x8_1⟩ : S123)]) x7_1 (wrap64 (x8_1 + t192)) x9_1 (wrap64 (x10_1 + ((a0.extract (x10_1 : Int).toNat ((wrap64 (x10_1 + t192)) : Int).toNat).size : Int)))) else (none)))) else (some (([] : List (S123)), x7_1, x8_1, 3)))) else (none)) else (none)) else ((intarsiaref01_Letter.f t185).bind fun t204 => (if t204 = true then ((intarsiaref01_run.f kj7 a0 x10_1 false).bind fun bt205 => (if bt205.2 > 16 then (some (([] : List (S123)), x7_1, x8_1, 3)) else (if x10_1 ≤ (wrap64 (x10_1 + bt205.1)) then (if (wrap64 (x10_1 + bt205.1)) ≤ (a0.size : Int) then (if x6_1.length < 2932031007402 then (intarsiaref01_Read.l0 kj7 a0 (x6_1 ++ [(⟨1, a0.extract (x10_1 : Int).toNat ((wrap64 (x10_1 + bt205.1)) : Int).toNat, 0, x7_1, x8_1⟩ : S123)]) x7_1 (wrap64 (x8_1 + bt205.2)) x9_1 (wrap64 (x10_1 + ((a0.extract (x10_1 : Int).toNat ((wrap64 (x10_1 + bt205.1)) : Int).toNat).size : Int)))) else (none)) else (none)) else (none)))) else ((intarsiaref01_Sign.f t185).bind fun t210 => (if t210 = true then (if x6_1.length < 2932031007402 then (intarsiaref01_Read.l0 kj7 a0 (x6_1 ++ [(⟨3, a0.extract (x10_1 : Int).toNat ((wrap64 (x10_1 + t186)) : Int).toNat, 0, x7_1, x8_1⟩ : S123)]) x7_1 (wrap64 (x8_1 + 1)) x9_1 (wrap64 (x10_1 + ((a0.extract (x10_1 : Int).toNat ((wrap64 (x10_1 + t186)) : Int).toNat).size : Int)))) else (none)) else (some (([] : List (S123)), x7_1, x8_1, 6))))))) = some (r1, r2, r3, r4) := H
                        have A17 := Aside0.mk A170
                        clear A170
                        by_cases c18 : t192 > 0
                        · rw [if_pos c18] at H
                          have c18b0 : decide (0 < t192) = true := decide_eq_true c18
                          clear c18
                          have c19b0 := eq_true (of_decide_eq_true (by first | (with_reducible assumption) | assumption) : 0 ≤ x10_1)
                          by_cases c20 : x10_1 ≤ (wrap64 (x10_1 + t192))
                          · rw [if_pos c20] at H
                            have c20b0 := eq_true c20
                            have c20b1 : decide (x10_1 ≤ (wrap64 (x10_1 + t192))) = true := decide_eq_true c20
                            by_cases c21 : (wrap64 (x10_1 + t192)) ≤ (a0.size : Int)
                            · rw [if_pos c21] at H
                              have c21b0 := eq_true c21
                              have c21b1 : decide ((wrap64 (x10_1 + t192)) ≤ (a0.size : Int)) = true := decide_eq_true c21
                              replace H := Option.bind_eq_some_iff.mp H
                              obtain ⟨⟨t193, t194⟩, A220, H⟩ := H
                              replace H : (if t194 = true then ((intarsiaref01_at.f kj7 a0 (wrap64 (x10_1 + t192))).bind fun bt195 => (if bt195.2 > 0 then ((intarsiaref01_Letter.f bt195.1).bind fun t197 => (if t197 = true then (some (([] : List (S123)), x7_1, wrap64 (x8_1 + t192), 6)) else (if x6_1.length < 2932031007402 then (intarsiaref01_Read.l0 kj7 a0 (x6_1 ++ [(⟨2, a0.extract (x10_1 : Int).toNat ((wrap64 (x10_1 + t192)) : Int).toNat, t193, x7_1, x8_1⟩ : S123)]) x7_1 (wrap64 (x8_1 + t192)) x9_1 (wrap64 (x10_1 + ((a0.extract (x10_1 : Int).toNat ((wrap64 (x10_1 + t192)) : Int).toNat).size : Int)))) else (none)))) else (if x6_1.length < 2932031007402 then (intarsiaref01_Read.l0 kj7 a0 (x6_1 ++ [(⟨2, a0.extract (x10_1 : Int).toNat ((wrap64 (x10_1 + t192)) : Int).toNat, t193, x7_1, x8_1⟩ : S123)]) x7_1 (wrap64 (x8_1 + t192)) x9_1 (wrap64 (x10_1 + ((a0.extract (x10_1 : Int).toNat ((wrap64 (x10_1 + t192)) : Int).toNat).size : Int)))) else (none)))) else (some (([] : List (S123)), x7_1, x8_1, 3))) = some (r1, r2, r3, r4) := H
                              have A22 := Aside0.mk A220
                              clear A220
                              by_cases c23 : t194 = true
                              · subst c23
                                have H1 : ((intarsiaref01_at.f kj7 a0 (wrap64 (x10_1 + t192))).bind fun bt195 => (if bt195.2 > 0 then ((intarsiaref01_Letter.f bt195.1).bind fun t197 => (if t197 = true then (some (([] : List (S123)), x7_1, wrap64 (x8_1 + t192), 6)) else (if x6_1.length < 2932031007402 then (intarsiaref01_Read.l0 kj7 a0 (x6_1 ++ [(⟨2, a0.extract (x10_1 : Int).toNat ((wrap64 (x10_1 + t192)) : Int).toNat, t193, x7_1, x8_1⟩ : S123)]) x7_1 (wrap64 (x8_1 + t192)) x9_1 (wrap64 (x10_1 + ((a0.extract (x10_1 : Int).toNat ((wrap64 (x10_1 + t192)) : Int).toNat).size : Int)))) else (none)))) else (if x6_1.length < 2932031007402 then (intarsiaref01_Read.l0 kj7 a0 (x6_1 ++ [(⟨2, a0.extract (x10_1 : Int).toNat ((wrap64 (x10_1 + t192)) : Int).toNat, t193, x7_1, x8_1⟩ : S123)]) x7_1 (wrap64 (x8_1 + t192)) x9_1 (wrap64 (x10_1 + ((a0.extract (x10_1 : Int).toNat ((wrap64 (x10_1 + t192)) : Int).toNat).size : Int)))) else (none)))) = some (r1, r2, r3, r4) := by rw [if_pos rfl] at H; exact H
                                clear H
                                have H := H1
                                clear H1
                                have c24b0 := eq_true (of_decide_eq_true (by first | (with_reducible assumption) | assumption) : 0 ≤ x10_1)
                                have c25b0 := eq_true (of_decide_eq_true (by first | (with_reducible assumption) | assumption) : x10_1 ≤ (wrap64 (x10_1 + t192)))
                                have c26b0 := eq_true (of_decide_eq_true (by first | (with_reducible assumption) | assumption) : (wrap64 (x10_1 + t192)) ≤ (a0.size : Int))
                                replace H := Option.bind_eq_some_iff.mp H
                                obtain ⟨⟨t195, t196⟩, A270, H⟩ := H
                                replace H : (if t196 > 0 then ((intarsiaref01_Letter.f t195).bind fun t197 => (if t197 = true then (some (([] : List (S123)), x7_1, wrap64 (x8_1 + t192), 6)) else (if x6_1.length < 2932031007402 then (intarsiaref01_Read.l0 kj7 a0 (x6_1 ++ [(⟨2, a0.extract (x10_1 : Int).toNat ((wrap64 (x10_1 + t192)) : Int).toNat, t193, x7_1, x8_1⟩ : S123)]) x7_1 (wrap64 (x8_1 + t192)) x9_1 (wrap64 (x10_1 + ((a0.extract (x10_1 : Int).toNat ((wrap64 (x10_1 + t192)) : Int).toNat).size : Int)))) else (none)))) else (if x6_1.length < 2932031007402 then (intarsiaref01_Read.l0 kj7 a0 (x6_1 ++ [(⟨2, a0.extract (x10_1 : Int).toNat ((wrap64 (x10_1 + t192)) : Int).toNat, t193, x7_1, x8_1⟩ : S123)]) x7_1 (wrap64 (x8_1 + t192)) x9_1 (wrap64 (x10_1 + ((a0.extract (x10_1 : Int).toNat ((wrap64 (x10_1 + t192)) : Int).toNat).size : Int)))) else (none))) = some (r1, r2, r3, r4) := H
                                have A27 := Aside0.mk A270
                                clear A270
                                by_cases c28 : t196 > 0
                                · rw [if_pos c28] at H
                                  have c28b0 : decide (0 < t196) = true := decide_eq_true c28
                                  clear c28
                                  replace H := Option.bind_eq_some_iff.mp H
                                  obtain ⟨t197, A290, H⟩ := H
                                  replace H : (if t197 = true then (some (([] : List (S123)), x7_1, wrap64 (x8_1 + t192), 6)) else (if x6_1.length < 2932031007402 then (intarsiaref01_Read.l0 kj7 a0 (x6_1 ++ [(⟨2, a0.extract (x10_1 : Int).toNat ((wrap64 (x10_1 + t192)) : Int).toNat, t193, x7_1, x8_1⟩ : S123)]) x7_1 (wrap64 (x8_1 + t192)) x9_1 (wrap64 (x10_1 + ((a0.extract (x10_1 : Int).toNat ((wrap64 (x10_1 + t192)) : Int).toNat).size : Int)))) else (none))) = some (r1, r2, r3, r4) := H
                                  have A29 := Aside0.mk A290
                                  clear A290
                                  by_cases c30 : t197 = true
                                  · subst c30
                                    have H1 : (some (([] : List (S123)), x7_1, wrap64 (x8_1 + t192), 6)) = some (r1, r2, r3, r4) := by rw [if_pos rfl] at H; exact H
                                    clear H
                                    have H := H1
                                    clear H1
                                    simp only [Option.some.injEq, Prod.mk.injEq] at H
                                    obtain ⟨rfl, rfl, rfl, rfl⟩ := H
                                    try go_wp2_with (first | ((with_reducible refine gate_dst (N := 13) rfl ?_); refine box_event ?hg (N := 13) ?hd (cs := #[.int .i64 0, .string (⟨#[]⟩ : ByteArray), .int .i64 0, .int .i64 0, .int .i64 0]) (t := 123) ?hr ?_; (case hd => rfl); (case hg => rfl); (case hr => first | (go_simp; done) | (go_simp; rfl)); intro gb191 hg w31 hbox hb; have n0_ := Aside0.mk (Kd.R_below (Kd.R_elderB (by (with_reducible repeat (first | apply Kd.R_alloc | apply Kd.R_drewN | apply Kd.R_drew)); exact HO_6.out) gb191 (Nat.le_of_eq hg.symm)) hb); have n1_ := Aside0.mk (below_step (by repeat (first | (with_reducible first | exact HB.out | apply below_alloc | apply pw_below_drewN | apply below_drew1) | exact HB.out)) hb); have n2_ := Aside0.mk (hbox); have n3_ := Aside0.mk ((by rw [hg]; exact (below_size (by repeat (first | (with_reducible first | exact HB.out | apply below_alloc | apply pw_below_drewN | apply below_drew1) | exact HB.out))) : w.heap.size ≤ gb191)); have n4_ := Aside0.mk ((by rw [hg]; exact (below_size (by repeat (first | (with_reducible first | exact HB.out | apply below_alloc | apply pw_below_drewN | apply below_drew1) | exact HB.out))) : w.heap.size ≤ gb191)); clear HO_6; clear HB; have HO_6 := n0_; have HB := n1_; have BK191 := n2_; have GW191 := n3_; have GE191 := n4_; clear n0_ n1_ n2_ n3_ n4_; clear hb hbox hg; have hcz32_0 : w31.cell? ⟨gb191, 0, none⟩ = some (.int .i64 0) := (blk_cell BK191.out 0).trans rfl; have hcz32_1 : w31.cell? ⟨gb191, 1, none⟩ = some (.string (⟨#[]⟩ : ByteArray)) := (blk_cell BK191.out 1).trans rfl; have hcz32_2 : w31.cell? ⟨gb191, 2, none⟩ = some (.int .i64 0) := (blk_cell BK191.out 2).trans rfl; have hcz32_3 : w31.cell? ⟨gb191, 3, none⟩ = some (.int .i64 0) := (blk_cell BK191.out 3).trans rfl; have hcz32_4 : w31.cell? ⟨gb191, 4, none⟩ = some (.int .i64 0) := (blk_cell BK191.out 4).trans rfl; have hfz32_0 := blk_frozen BK191.out 0; have hfz32_1 := blk_frozen BK191.out 1; have hfz32_2 := blk_frozen BK191.out 2; have hfz32_3 := blk_frozen BK191.out 3; have hfz32_4 := blk_frozen BK191.out 4) | ((with_reducible refine gate_callee (f := 97) rfl ?_); refine goesL_ (some 78) rfl rfl Tryz.func97 (by kernel_rfl) rfl #[.string a0, .int .i64 x10_1] rfl (by (try simp only [List.map_toArray, List.map_cons, List.map_nil]); first | done | rfl | (simp only [List.length_drop, List.length_take]; rfl)) ?_; (with_reducible refine (intarsiaref01_numbers.calls kj7 a0 x10_1 t192 _ A17.out).mono ?_); rintro e w' ⟨rfl, ⟨nd, rfl⟩⟩; refine ⟨_, rfl, ?_⟩) | ((with_reducible refine gate_callee (f := 98) rfl ?_); refine goesL_ (some 89) rfl rfl Tryz.func98 (by kernel_rfl) rfl #[.string (a0.extract (x10_1 : Int).toNat ((wrap64 (x10_1 + t192)) : Int).toNat)] rfl (by (try simp only [List.map_toArray, List.map_cons, List.map_nil]); first | done | rfl | (simp only [List.length_drop, List.length_take]; rfl)) ?_; (with_reducible refine (intarsiaref01_value.calls kj7 (a0.extract (x10_1 : Int).toNat ((wrap64 (x10_1 + t192)) : Int).toNat) t193 true _ A22.out).mono ?_); rintro e w' ⟨rfl, ⟨nd, rfl⟩⟩; refine ⟨_, rfl, ?_⟩))
                                    have n0_ : Aside0 (Kd.R k123 123 (((((w31.setCell ⟨gb191, 0, none⟩ (.int .i64 3)).setCell ⟨gb191, 1, none⟩ (.string (a0.extract (x10_1 : Int).toNat ((wrap64 (x10_1 + t186)) : Int).toNat))).setCell ⟨gb191, 2, none⟩ (.int .i64 0)).setCell ⟨gb191, 3, none⟩ (.int .i64 x7_1)).setCell ⟨gb191, 4, none⟩ (.int .i64 x8_1)) w.heap.size (fun k_ => k_ ≠ gb191) u6 x6_1) := ⟨by (with_reducible repeat (first | apply Kd.R_alloc | apply Kd.R_drewN | apply Kd.R_drew)); exact Kd.R_mono (Kd.R_far (p := ⟨gb191, 4, none⟩) (Kd.R_far (p := ⟨gb191, 3, none⟩) (Kd.R_far (p := ⟨gb191, 2, none⟩) (Kd.R_far (p := ⟨gb191, 1, none⟩) (Kd.R_far (p := ⟨gb191, 0, none⟩) (Kd.R_mono HO_6.out (fun k_ hk => (⟨hk, hk.2⟩ : _ ∧ k_ ≠ gb191))) (fun _ hk => hk.2) (.int .i64 3)) (fun _ hk => hk.2) (.string (a0.extract (x10_1 : Int).toNat ((wrap64 (x10_1 + t186)) : Int).toNat))) (fun _ hk => hk.2) (.int .i64 0)) (fun _ hk => hk.2) (.int .i64 x7_1)) (fun _ hk => hk.2) (.int .i64 x8_1)) (fun _ hk => hk.1.2)⟩
                                    have n1_ : Aside0 ((((((w31.setCell ⟨gb191, 0, none⟩ (.int .i64 3)).setCell ⟨gb191, 1, none⟩ (.string (a0.extract (x10_1 : Int).toNat ((wrap64 (x10_1 + t186)) : Int).toNat))).setCell ⟨gb191, 2, none⟩ (.int .i64 0)).setCell ⟨gb191, 3, none⟩ (.int .i64 x7_1)).setCell ⟨gb191, 4, none⟩ (.int .i64 x8_1)).heap[gb191]? = some (.cells #[.int .i64 3, .string (a0.extract (x10_1 : Int).toNat ((wrap64 (x10_1 + t186)) : Int).toNat), .int .i64 0, .int .i64 x7_1, .int .i64 x8_1] 123 (0, 0))) := ⟨by (with_reducible repeat (first | refine blk_drewN ?_ _ | refine blk_drew ?_ | refine blk_alloc ?_ _)); refine blk_put (cs := #[.int .i64 3, .string (a0.extract (x10_1 : Int).toNat ((wrap64 (x10_1 + t186)) : Int).toNat), .int .i64 0, .int .i64 x7_1, .int .i64 0]) ?_ 4 _ rfl; (with_reducible repeat (first | refine blk_drewN ?_ _ | refine blk_drew ?_ | refine blk_alloc ?_ _)); refine blk_put (cs := #[.int .i64 3, .string (a0.extract (x10_1 : Int).toNat ((wrap64 (x10_1 + t186)) : Int).toNat), .int .i64 0, .int .i64 0, .int .i64 0]) ?_ 3 _ rfl; (with_reducible repeat (first | refine blk_drewN ?_ _ | refine blk_drew ?_ | refine blk_alloc ?_ _)); refine blk_put (cs := #[.int .i64 3, .string (a0.extract (x10_1 : Int).toNat ((wrap64 (x10_1 + t186)) : Int).toNat), .int .i64 0, .int .i64 0, .int .i64 0]) ?_ 2 _ rfl; (with_reducible repeat (first | refine blk_drewN ?_ _ | refine blk_drew ?_ | refine blk_alloc ?_ _)); refine blk_put (cs := #[.int .i64 3, .string (⟨#[]⟩ : ByteArray), .int .i64 0, .int .i64 0, .int .i64 0]) ?_ 1 _ rfl; (with_reducible repeat (first | refine blk_drewN ?_ _ | refine blk_drew ?_ | refine blk_alloc ?_ _)); refine blk_put (cs := #[.int .i64 0, .string (⟨#[]⟩ : ByteArray), .int .i64 0, .int .i64 0, .int .i64 0]) ?_ 0 _ rfl; (with_reducible repeat (first | refine blk_drewN ?_ _ | refine blk_drew ?_ | refine blk_alloc ?_ _)); exact BK191.out⟩
                                    have n2_ : Aside0 (Below w.heap.size w (((((w31.setCell ⟨gb191, 0, none⟩ (.int .i64 3)).setCell ⟨gb191, 1, none⟩ (.string (a0.extract (x10_1 : Int).toNat ((wrap64 (x10_1 + t186)) : Int).toNat))).setCell ⟨gb191, 2, none⟩ (.int .i64 0)).setCell ⟨gb191, 3, none⟩ (.int .i64 x7_1)).setCell ⟨gb191, 4, none⟩ (.int .i64 x8_1))) := ⟨by repeat (first | (with_reducible first | exact HB.out | apply below_alloc | apply pw_below_drewN | apply below_drew1 | refine below_set ?_ GE191.out) | exact HB.out)⟩
                                    (try clear HO_6)
                                    (try clear BK191)
                                    (try clear HB)
                                    generalize (((((w31.setCell ⟨gb191, 0, none⟩ (.int .i64 3)).setCell ⟨gb191, 1, none⟩ (.string (a0.extract (x10_1 : Int).toNat ((wrap64 (x10_1 + t186)) : Int).toNat))).setCell ⟨gb191, 2, none⟩ (.int .i64 0)).setCell ⟨gb191, 3, none⟩ (.int .i64 x7_1)).setCell ⟨gb191, 4, none⟩ (.int .i64 x8_1)) = w33 at n0_ n1_ n2_ ⊢
                                    have HO_6 := n0_
                                    have BK191 := n1_
                                    have HB := n2_
                                    clear n0_ n1_ n2_
                                    (try (rw [drewN_self w33]; generalize hq_ : World.drewN w33 _ = w33; have n0_ : Aside0 (Kd.R k123 123 w33 w.heap.size (fun k_ => k_ ≠ gb191) u6 x6_1) := ⟨by rw [← hq_]; exact (by (with_reducible repeat (first | apply Kd.R_alloc | apply Kd.R_drewN | apply Kd.R_drew)); exact HO_6.out)⟩; have n1_ : Aside0 (w33.heap[gb191]? = some (.cells #[.int .i64 3, .string (a0.extract (x10_1 : Int).toNat ((wrap64 (x10_1 + t186)) : Int).toNat), .int .i64 0, .int .i64 x7_1, .int .i64 x8_1] 123 (0, 0))) := ⟨by rw [← hq_]; exact (by (with_reducible repeat (first | refine blk_drewN ?_ _ | refine blk_drew ?_ | refine blk_alloc ?_ _)); exact BK191.out)⟩; have n2_ : Aside0 (Below w.heap.size w w33) := ⟨by rw [← hq_]; exact (by repeat (first | (with_reducible first | exact HB.out | apply below_alloc | apply pw_below_drewN | apply below_drew1 | refine below_set ?_ GE191.out) | exact HB.out))⟩; clear HO_6 BK191 HB hq_; have HO_6 := n0_; have BK191 := n1_; have HB := n2_; clear n0_ n1_ n2_))
                                    have n0_ := Aside0.mk (Kd.R_drew HO_6.out)
                                    have n1_ := Aside0.mk (blk_drew BK191.out)
                                    have n2_ := Aside0.mk (below_drew1 HB.out)
                                    clear HO_6
                                    clear BK191
                                    clear HB
                                    have HO_6 := n0_
                                    have BK191 := n1_
                                    have HB := n2_
                                    clear n0_ n1_ n2_
                                    refine start_ (n := 15) (S := fun w' => True) (ds := []) #[false, false, false, false, false, false, false, false, false, false, false, false, false, false, false] (by kernel_rfl) rfl rfl trivial (fun hHeld => ?_); refine with_tabW intarsiaref01_Read.tab26 intarsiaref01_Read.bits26 (fun HT_ HW_ => ?_)
                                    generalize w33.drew = w34 at HO_6 BK191 HB hHeld ⊢
                                    refine pure_ (i := 0) (N := some 96) (v := ?_) (a' := ?_) #[true, false, false, false, false, false, false, false, false, false, false, false, false, false, false] rfl rfl (any_of HT_.out (by kernel_rfl)) (fun _ _ _ h => h) (Or.inl ⟨by rfl, ?_⟩) ?_ ?_
                                    rotate_left
                                    · intro w'
                                      go_simp
                                      with_reducible rfl
                                    rotate_left
                                    · simp only [Act.put, List.setIfInBounds_toArray, List.set_cons_zero, List.set_cons_succ, i64_w, i32_w]
                                      rfl
                                    refine pure_ (i := 1) (N := some 97) (v := ?_) (a' := ?_) #[true, true, false, false, false, false, false, false, false, false, false, false, false, false, false] rfl rfl (any_of HT_.out (by kernel_rfl)) (fun _ _ _ h => h) (Or.inl ⟨by rfl, ?_⟩) ?_ ?_
                                    rotate_left
                                    · intro w'
                                      go_simp
                                      with_reducible rfl
                                    rotate_left
                                    · simp only [Act.put, List.setIfInBounds_toArray, List.set_cons_zero, List.set_cons_succ, i64_w, i32_w]
                                      rfl
                                    refine pure_ (i := 2) (N := some 98) (v := ?_) (a' := ?_) #[true, true, true, false, false, false, false, false, false, false, false, false, false, false, false] rfl rfl (any_of HT_.out (by kernel_rfl)) (fun _ _ _ h => h) (Or.inl ⟨by rfl, ?_⟩) ?_ ?_
                                    rotate_left
                                    · intro w'
                                      go_simp
                                      with_reducible rfl
                                    rotate_left
                                    · simp only [Act.put, List.setIfInBounds_toArray, List.set_cons_zero, List.set_cons_succ, i64_w, i32_w]
                                      rfl
                                    refine pure_ (i := 3) (N := some 99) (v := ?_) (a' := ?_) #[true, true, true, true, false, false, false, false, false, false, false, false, false, false, false] rfl rfl (any_of HT_.out (by kernel_rfl)) (fun _ _ _ h => h) (Or.inl ⟨by rfl, ?_⟩) ?_ ?_
                                    rotate_left
                                    · intro w'
                                      go_simp
                                      with_reducible rfl
                                    rotate_left
                                    · simp only [Act.put, List.setIfInBounds_toArray, List.set_cons_zero, List.set_cons_succ, i64_w, i32_w]
                                      rfl
                                    refine pure_ (i := 4) (N := some 100) (v := ?_) (a' := ?_) #[true, true, true, true, true, false, false, false, false, false, false, false, false, false, false] rfl rfl (any_of HT_.out (by kernel_rfl)) (fun _ _ _ h => h) (Or.inl ⟨by rfl, ?_⟩) ?_ ?_
                                    rotate_left
                                    · intro w'
                                      go_simp
                                      with_reducible rfl
                                    rotate_left
                                    · simp only [Act.put, List.setIfInBounds_toArray, List.set_cons_zero, List.set_cons_succ, i64_w, i32_w]
                                      rfl
                                    refine pure_ (i := 5) (N := some 101) (v := ?_) (a' := ?_) #[true, true, true, true, true, true, false, false, false, false, false, false, false, false, false] rfl rfl (any_of HT_.out (by kernel_rfl)) (fun _ _ _ h => h) (Or.inl ⟨by rfl, ?_⟩) ?_ ?_
                                    rotate_left
                                    · intro w'
                                      go_simp
                                      with_reducible rfl
                                    rotate_left
                                    · simp only [Act.put, List.setIfInBounds_toArray, List.set_cons_zero, List.set_cons_succ, i64_w, i32_w]
                                      rfl
                                    refine pure_ (i := 6) (N := some 102) (v := ?_) (a' := ?_) #[true, true, true, true, true, true, true, false, false, false, false, false, false, false, false] rfl rfl (any_of HT_.out (by kernel_rfl)) (fun _ _ _ h => h) (Or.inl ⟨by rfl, ?_⟩) ?_ ?_
                                    rotate_left
                                    · intro w'
                                      go_simp
                                      with_reducible rfl
                                    rotate_left
                                    · simp only [Act.put, List.setIfInBounds_toArray, List.set_cons_zero, List.set_cons_succ, i64_w, i32_w]
                                      rfl
                                    refine pure_ (i := 7) (N := some 103) (v := ?_) (a' := ?_) #[true, true, true, true, true, true, true, true, false, false, false, false, false, false, false] rfl rfl (any_of HT_.out (by kernel_rfl)) (fun _ _ _ h => h) (Or.inl ⟨by rfl, ?_⟩) ?_ ?_
                                    rotate_left
                                    · intro w'
                                      go_simp
                                      with_reducible rfl
                                    rotate_left
                                    · simp only [Act.put, List.setIfInBounds_toArray, List.set_cons_zero, List.set_cons_succ, i64_w, i32_w]
                                      rfl
                                    refine pure_ (i := 8) (N := some 104) (v := ?_) (a' := ?_) #[true, true, true, true, true, true, true, true, true, false, false, false, false, false, false] rfl rfl (any_of HT_.out (by kernel_rfl)) (fun _ _ _ h => h) (Or.inl ⟨by rfl, ?_⟩) ?_ ?_
                                    rotate_left
                                    · intro w'
                                      go_simp
                                      with_reducible rfl
                                    rotate_left
                                    · simp only [Act.put, List.setIfInBounds_toArray, List.set_cons_zero, List.set_cons_succ, i64_w, i32_w]
                                      rfl
                                    refine one_ (i := 9) (N := none) #[true, true, true, true, true, true, true, true, true, true, false, false, false, false, false] rfl rfl (one_of HT_.out (by kernel_rfl)) (by decide) (fun K hK => ?_)
                                    have hs35 : w34.cell? ⟨gb191, 0, none⟩ = some (.int .i64 3) := (blk_cell BK191.out 0).trans rfl
                                    have hfs35 := blk_frozen BK191.out 0
                                    refine skip_ (w1 := ?_) (by rfl) rfl ?_ ?_
                                    rotate_left
                                    · go_simp
                                      rfl
                                    refine hK.out _ _ trivial (fun hHeld => ?_)
                                    clear hK K
                                    refine pure_ (i := 10) (N := some 105) (v := ?_) (a' := ?_) #[true, true, true, true, true, true, true, true, true, true, true, false, false, false, false] rfl rfl (any_of HT_.out (by kernel_rfl)) (fun _ _ _ h => h) (Or.inl ⟨by rfl, ?_⟩) ?_ ?_
                                    rotate_left
                                    · intro w'
                                      go_simp
                                      with_reducible rfl
                                    rotate_left
                                    · simp only [Act.put, List.setIfInBounds_toArray, List.set_cons_zero, List.set_cons_succ, i64_w, i32_w]
                                      rfl
                                    refine one_ (i := 11) (N := none) #[true, true, true, true, true, true, true, true, true, true, true, true, false, false, false] rfl rfl (one_of HT_.out (by kernel_rfl)) (by decide) (fun K hK => ?_)
                                    have hs36 : w34.cell? ⟨gb191, 1, none⟩ = some (.string (a0.extract (x10_1 : Int).toNat ((wrap64 (x10_1 + t186)) : Int).toNat)) := (blk_cell BK191.out 1).trans rfl
                                    have hfs36 := blk_frozen BK191.out 1
                                    refine skip_ (w1 := ?_) (by rfl) rfl ?_ ?_
                                    rotate_left
                                    · go_simp
                                      rfl
                                    refine hK.out _ _ trivial (fun hHeld => ?_)
                                    clear hK K
                                    refine pure_ (i := 12) (N := some 106) (v := ?_) (a' := ?_) #[true, true, true, true, true, true, true, true, true, true, true, true, true, false, false] rfl rfl (any_of HT_.out (by kernel_rfl)) (fun _ _ _ h => h) (Or.inl ⟨by rfl, ?_⟩) ?_ ?_
                                    rotate_left
                                    · intro w'
                                      go_simp
                                      with_reducible rfl
                                    rotate_left
                                    · simp only [Act.put, List.setIfInBounds_toArray, List.set_cons_zero, List.set_cons_succ, i64_w, i32_w]
                                      rfl
                                    refine one_ (i := 13) (N := none) #[true, true, true, true, true, true, true, true, true, true, true, true, true, true, false] rfl rfl (one_of HT_.out (by kernel_rfl)) (by decide) (fun K hK => ?_)
                                    have hs37 : w34.cell? ⟨gb191, 2, none⟩ = some (.int .i64 0) := (blk_cell BK191.out 2).trans rfl
                                    have hfs37 := blk_frozen BK191.out 2
                                    refine skip_ (w1 := ?_) (by rfl) rfl ?_ ?_
                                    rotate_left
                                    · go_simp
                                      rfl
                                    refine hK.out _ _ trivial (fun hHeld => ?_)
                                    clear hK K
                                    refine pure_ (i := 14) (N := some 14) (v := ?_) (a' := ?_) #[true, true, true, true, true, true, true, true, true, true, true, true, true, true, true] rfl rfl (any_of HT_.out (by kernel_rfl)) (fun _ _ _ h => h) (Or.inl ⟨by rfl, ?_⟩) ?_ ?_
                                    rotate_left
                                    · intro w'
                                      go_simp
                                      with_reducible rfl
                                    rotate_left
                                    · simp only [Act.put, List.setIfInBounds_toArray, List.set_cons_zero, List.set_cons_succ, i64_w, i32_w]
                                      rfl
                                    refine done_ (done_of HT_.out (by kernel_rfl)) ?_
                                    try go_wp2_with (first | ((with_reducible refine gate_callee (f := 95) rfl ?_); refine goesL_ (some 112) rfl rfl Tryz.func95 (by kernel_rfl) rfl #[.string a0, .int .i64 (wrap64 (x10_1 + t192))] rfl (by (try simp only [List.map_toArray, List.map_cons, List.map_nil]); first | done | rfl | (simp only [List.length_drop, List.length_take]; rfl)) ?_; (with_reducible refine (intarsiaref01_at.calls kj7 a0 (wrap64 (x10_1 + t192)) t195 t196 _ A27.out).mono ?_); rintro e w' ⟨rfl, ⟨nd, rfl⟩⟩; refine ⟨_, rfl, ?_⟩) | (go_at_call 99; (with_reducible refine (intarsiaref01_Letter.calls t195 true _ A29.out).mono ?_); rintro e w' ⟨rfl, ⟨nd, rfl⟩⟩))
                                    refine bodyPost_ret (results_list (rs := [.tmp 2, .tmp 3, .tmp 4, .tmp 5]) rfl (by simp) (.tmp (.tmp (.tmp (.tmp .nil))))) rfl ?_
                                    exact ⟨_, by first | rfl | (simp [errW_none, errW_some] <;> rfl) | (simp [*, errW_none, errW_some] <;> rfl), by first | exact Kd.R_nil _ _ _ _ _ | exact Kd.N_nil _ _ _ _ _ | exact Kd.V_nil _ _ _ _ _ | exact Kd.Q_nil _ _ _ _ _ | exact Kd.S_nil _ _ _ _ _, by repeat (first | (with_reducible first | exact HB.out | apply below_alloc | apply pw_below_drewN | apply below_drew1 | refine below_set ?_ GE191.out) | exact HB.out)⟩
                                  · replace c30 := Bool.eq_false_iff.mpr c30
                                    subst c30
                                    have H1 : (if x6_1.length < 2932031007402 then (intarsiaref01_Read.l0 kj7 a0 (x6_1 ++ [(⟨2, a0.extract (x10_1 : Int).toNat ((wrap64 (x10_1 + t192)) : Int).toNat, t193, x7_1, x8_1⟩ : S123)]) x7_1 (wrap64 (x8_1 + t192)) x9_1 (wrap64 (x10_1 + ((a0.extract (x10_1 : Int).toNat ((wrap64 (x10_1 + t192)) : Int).toNat).size : Int)))) else (none)) = some (r1, r2, r3, r4) := by rw [if_neg (show ¬ (false = true) by decide)] at H; exact H
                                    clear H
                                    have H := H1
                                    clear H1
                                    by_cases c38 : x6_1.length < 2932031007402
                                    · rw [if_pos c38] at H
                                      have LMc38 := Aside0.mk c38
                                      clear c38
                                      obtain ⟨y198, hy198⟩ : ∃ y_ : List (S123), y_ = (x6_1 ++ [(⟨2, a0.extract (x10_1 : Int).toNat ((wrap64 (x10_1 + t192)) : Int).toNat, t193, x7_1, x8_1⟩ : S123)]) := ⟨_, rfl⟩
                                      replace H : (intarsiaref01_Read.l0 kj7 a0 y198 x7_1 (wrap64 (x8_1 + t192)) x9_1 (wrap64 (x10_1 + ((a0.extract (x10_1 : Int).toNat ((wrap64 (x10_1 + t192)) : Int).toNat).size : Int)))) = some (r1, r2, r3, r4) := by first | (rw [hy198]; with_reducible exact H) | (have H2_ := (Option.bind_some _ _).symm.trans H; rw [hy198]; with_reducible exact H2_) | (have H2_ := (Option.bind_some _ _).symm.trans H; with_reducible exact H2_) | with_reducible exact H | (rw [hy198]; exact H) | exact H
                                      have Ny198 := Aside0.mk hy198
                                      clear hy198
                                      have H' := Aside0.mk H
                                      clear H
                                      try go_wp2_with (first | ((with_reducible refine gate_dst (N := 13) rfl ?_); refine box_event ?hg (N := 13) ?hd (cs := #[.int .i64 0, .string (⟨#[]⟩ : ByteArray), .int .i64 0, .int .i64 0, .int .i64 0]) (t := 123) ?hr ?_; (case hd => rfl); (case hg => rfl); (case hr => first | (go_simp; done) | (go_simp; rfl)); intro gb191 hg w39 hbox hb; have n0_ := Aside0.mk (Kd.R_below (Kd.R_elderB (by (with_reducible repeat (first | apply Kd.R_alloc | apply Kd.R_drewN | apply Kd.R_drew)); exact HO_6.out) gb191 (Nat.le_of_eq hg.symm)) hb); have n1_ := Aside0.mk (below_step (by repeat (first | (with_reducible first | exact HB.out | apply below_alloc | apply pw_below_drewN | apply below_drew1) | exact HB.out)) hb); have n2_ := Aside0.mk (hbox); have n3_ := Aside0.mk ((by rw [hg]; exact (below_size (by repeat (first | (with_reducible first | exact HB.out | apply below_alloc | apply pw_below_drewN | apply below_drew1) | exact HB.out))) : w.heap.size ≤ gb191)); have n4_ := Aside0.mk ((by rw [hg]; exact (below_size (by repeat (first | (with_reducible first | exact HB.out | apply below_alloc | apply pw_below_drewN | apply below_drew1) | exact HB.out))) : w.heap.size ≤ gb191)); clear HO_6; clear HB; have HO_6 := n0_; have HB := n1_; have BK191 := n2_; have GW191 := n3_; have GE191 := n4_; clear n0_ n1_ n2_ n3_ n4_; clear hb hbox hg; have hcz40_0 : w39.cell? ⟨gb191, 0, none⟩ = some (.int .i64 0) := (blk_cell BK191.out 0).trans rfl; have hcz40_1 : w39.cell? ⟨gb191, 1, none⟩ = some (.string (⟨#[]⟩ : ByteArray)) := (blk_cell BK191.out 1).trans rfl; have hcz40_2 : w39.cell? ⟨gb191, 2, none⟩ = some (.int .i64 0) := (blk_cell BK191.out 2).trans rfl; have hcz40_3 : w39.cell? ⟨gb191, 3, none⟩ = some (.int .i64 0) := (blk_cell BK191.out 3).trans rfl; have hcz40_4 : w39.cell? ⟨gb191, 4, none⟩ = some (.int .i64 0) := (blk_cell BK191.out 4).trans rfl; have hfz40_0 := blk_frozen BK191.out 0; have hfz40_1 := blk_frozen BK191.out 1; have hfz40_2 := blk_frozen BK191.out 2; have hfz40_3 := blk_frozen BK191.out 3; have hfz40_4 := blk_frozen BK191.out 4) | ((with_reducible refine gate_callee (f := 97) rfl ?_); refine goesL_ (some 78) rfl rfl Tryz.func97 (by kernel_rfl) rfl #[.string a0, .int .i64 x10_1] rfl (by (try simp only [List.map_toArray, List.map_cons, List.map_nil]); first | done | rfl | (simp only [List.length_drop, List.length_take]; rfl)) ?_; (with_reducible refine (intarsiaref01_numbers.calls kj7 a0 x10_1 t192 _ A17.out).mono ?_); rintro e w' ⟨rfl, ⟨nd, rfl⟩⟩; refine ⟨_, rfl, ?_⟩) | ((with_reducible refine gate_callee (f := 98) rfl ?_); refine goesL_ (some 89) rfl rfl Tryz.func98 (by kernel_rfl) rfl #[.string (a0.extract (x10_1 : Int).toNat ((wrap64 (x10_1 + t192)) : Int).toNat)] rfl (by (try simp only [List.map_toArray, List.map_cons, List.map_nil]); first | done | rfl | (simp only [List.length_drop, List.length_take]; rfl)) ?_; (with_reducible refine (intarsiaref01_value.calls kj7 (a0.extract (x10_1 : Int).toNat ((wrap64 (x10_1 + t192)) : Int).toNat) t193 true _ A22.out).mono ?_); rintro e w' ⟨rfl, ⟨nd, rfl⟩⟩; refine ⟨_, rfl, ?_⟩))
                                      have n0_ : Aside0 (Kd.R k123 123 (((((w39.setCell ⟨gb191, 0, none⟩ (.int .i64 3)).setCell ⟨gb191, 1, none⟩ (.string (a0.extract (x10_1 : Int).toNat ((wrap64 (x10_1 + t186)) : Int).toNat))).setCell ⟨gb191, 2, none⟩ (.int .i64 0)).setCell ⟨gb191, 3, none⟩ (.int .i64 x7_1)).setCell ⟨gb191, 4, none⟩ (.int .i64 x8_1)) w.heap.size (fun k_ => k_ ≠ gb191) u6 x6_1) := ⟨by (with_reducible repeat (first | apply Kd.R_alloc | apply Kd.R_drewN | apply Kd.R_drew)); exact Kd.R_mono (Kd.R_far (p := ⟨gb191, 4, none⟩) (Kd.R_far (p := ⟨gb191, 3, none⟩) (Kd.R_far (p := ⟨gb191, 2, none⟩) (Kd.R_far (p := ⟨gb191, 1, none⟩) (Kd.R_far (p := ⟨gb191, 0, none⟩) (Kd.R_mono HO_6.out (fun k_ hk => (⟨hk, hk.2⟩ : _ ∧ k_ ≠ gb191))) (fun _ hk => hk.2) (.int .i64 3)) (fun _ hk => hk.2) (.string (a0.extract (x10_1 : Int).toNat ((wrap64 (x10_1 + t186)) : Int).toNat))) (fun _ hk => hk.2) (.int .i64 0)) (fun _ hk => hk.2) (.int .i64 x7_1)) (fun _ hk => hk.2) (.int .i64 x8_1)) (fun _ hk => hk.1.2)⟩
                                      have n1_ : Aside0 ((((((w39.setCell ⟨gb191, 0, none⟩ (.int .i64 3)).setCell ⟨gb191, 1, none⟩ (.string (a0.extract (x10_1 : Int).toNat ((wrap64 (x10_1 + t186)) : Int).toNat))).setCell ⟨gb191, 2, none⟩ (.int .i64 0)).setCell ⟨gb191, 3, none⟩ (.int .i64 x7_1)).setCell ⟨gb191, 4, none⟩ (.int .i64 x8_1)).heap[gb191]? = some (.cells #[.int .i64 3, .string (a0.extract (x10_1 : Int).toNat ((wrap64 (x10_1 + t186)) : Int).toNat), .int .i64 0, .int .i64 x7_1, .int .i64 x8_1] 123 (0, 0))) := ⟨by (with_reducible repeat (first | refine blk_drewN ?_ _ | refine blk_drew ?_ | refine blk_alloc ?_ _)); refine blk_put (cs := #[.int .i64 3, .string (a0.extract (x10_1 : Int).toNat ((wrap64 (x10_1 + t186)) : Int).toNat), .int .i64 0, .int .i64 x7_1, .int .i64 0]) ?_ 4 _ rfl; (with_reducible repeat (first | refine blk_drewN ?_ _ | refine blk_drew ?_ | refine blk_alloc ?_ _)); refine blk_put (cs := #[.int .i64 3, .string (a0.extract (x10_1 : Int).toNat ((wrap64 (x10_1 + t186)) : Int).toNat), .int .i64 0, .int .i64 0, .int .i64 0]) ?_ 3 _ rfl; (with_reducible repeat (first | refine blk_drewN ?_ _ | refine blk_drew ?_ | refine blk_alloc ?_ _)); refine blk_put (cs := #[.int .i64 3, .string (a0.extract (x10_1 : Int).toNat ((wrap64 (x10_1 + t186)) : Int).toNat), .int .i64 0, .int .i64 0, .int .i64 0]) ?_ 2 _ rfl; (with_reducible repeat (first | refine blk_drewN ?_ _ | refine blk_drew ?_ | refine blk_alloc ?_ _)); refine blk_put (cs := #[.int .i64 3, .string (⟨#[]⟩ : ByteArray), .int .i64 0, .int .i64 0, .int .i64 0]) ?_ 1 _ rfl; (with_reducible repeat (first | refine blk_drewN ?_ _ | refine blk_drew ?_ | refine blk_alloc ?_ _)); refine blk_put (cs := #[.int .i64 0, .string (⟨#[]⟩ : ByteArray), .int .i64 0, .int .i64 0, .int .i64 0]) ?_ 0 _ rfl; (with_reducible repeat (first | refine blk_drewN ?_ _ | refine blk_drew ?_ | refine blk_alloc ?_ _)); exact BK191.out⟩
                                      have n2_ : Aside0 (Below w.heap.size w (((((w39.setCell ⟨gb191, 0, none⟩ (.int .i64 3)).setCell ⟨gb191, 1, none⟩ (.string (a0.extract (x10_1 : Int).toNat ((wrap64 (x10_1 + t186)) : Int).toNat))).setCell ⟨gb191, 2, none⟩ (.int .i64 0)).setCell ⟨gb191, 3, none⟩ (.int .i64 x7_1)).setCell ⟨gb191, 4, none⟩ (.int .i64 x8_1))) := ⟨by repeat (first | (with_reducible first | exact HB.out | apply below_alloc | apply pw_below_drewN | apply below_drew1 | refine below_set ?_ GE191.out) | exact HB.out)⟩
                                      (try clear HO_6)
                                      (try clear BK191)
                                      (try clear HB)
                                      generalize (((((w39.setCell ⟨gb191, 0, none⟩ (.int .i64 3)).setCell ⟨gb191, 1, none⟩ (.string (a0.extract (x10_1 : Int).toNat ((wrap64 (x10_1 + t186)) : Int).toNat))).setCell ⟨gb191, 2, none⟩ (.int .i64 0)).setCell ⟨gb191, 3, none⟩ (.int .i64 x7_1)).setCell ⟨gb191, 4, none⟩ (.int .i64 x8_1)) = w41 at n0_ n1_ n2_ ⊢
                                      have HO_6 := n0_
                                      have BK191 := n1_
                                      have HB := n2_
                                      clear n0_ n1_ n2_
                                      (try (rw [drewN_self w41]; generalize hq_ : World.drewN w41 _ = w41; have n0_ : Aside0 (Kd.R k123 123 w41 w.heap.size (fun k_ => k_ ≠ gb191) u6 x6_1) := ⟨by rw [← hq_]; exact (by (with_reducible repeat (first | apply Kd.R_alloc | apply Kd.R_drewN | apply Kd.R_drew)); exact HO_6.out)⟩; have n1_ : Aside0 (w41.heap[gb191]? = some (.cells #[.int .i64 3, .string (a0.extract (x10_1 : Int).toNat ((wrap64 (x10_1 + t186)) : Int).toNat), .int .i64 0, .int .i64 x7_1, .int .i64 x8_1] 123 (0, 0))) := ⟨by rw [← hq_]; exact (by (with_reducible repeat (first | refine blk_drewN ?_ _ | refine blk_drew ?_ | refine blk_alloc ?_ _)); exact BK191.out)⟩; have n2_ : Aside0 (Below w.heap.size w w41) := ⟨by rw [← hq_]; exact (by repeat (first | (with_reducible first | exact HB.out | apply below_alloc | apply pw_below_drewN | apply below_drew1 | refine below_set ?_ GE191.out) | exact HB.out))⟩; clear HO_6 BK191 HB hq_; have HO_6 := n0_; have BK191 := n1_; have HB := n2_; clear n0_ n1_ n2_))
                                      have n0_ := Aside0.mk (Kd.R_drew HO_6.out)
                                      have n1_ := Aside0.mk (blk_drew BK191.out)
                                      have n2_ := Aside0.mk (below_drew1 HB.out)
                                      clear HO_6
                                      clear BK191
                                      clear HB
                                      have HO_6 := n0_
                                      have BK191 := n1_
                                      have HB := n2_
                                      clear n0_ n1_ n2_
                                      refine start_ (n := 15) (S := fun w' => True) (ds := []) #[false, false, false, false, false, false, false, false, false, false, false, false, false, false, false] (by kernel_rfl) rfl rfl trivial (fun hHeld => ?_); refine with_tabW intarsiaref01_Read.tab26 intarsiaref01_Read.bits26 (fun HT_ HW_ => ?_)
                                      generalize w41.drew = w42 at HO_6 BK191 HB hHeld ⊢
                                      refine pure_ (i := 0) (N := some 96) (v := ?_) (a' := ?_) #[true, false, false, false, false, false, false, false, false, false, false, false, false, false, false] rfl rfl (any_of HT_.out (by kernel_rfl)) (fun _ _ _ h => h) (Or.inl ⟨by rfl, ?_⟩) ?_ ?_
                                      rotate_left
                                      · intro w'
                                        go_simp
                                        with_reducible rfl
                                      rotate_left
                                      · simp only [Act.put, List.setIfInBounds_toArray, List.set_cons_zero, List.set_cons_succ, i64_w, i32_w]
                                        rfl
                                      refine pure_ (i := 1) (N := some 97) (v := ?_) (a' := ?_) #[true, true, false, false, false, false, false, false, false, false, false, false, false, false, false] rfl rfl (any_of HT_.out (by kernel_rfl)) (fun _ _ _ h => h) (Or.inl ⟨by rfl, ?_⟩) ?_ ?_
                                      rotate_left
                                      · intro w'
                                        go_simp
                                        with_reducible rfl
                                      rotate_left
                                      · simp only [Act.put, List.setIfInBounds_toArray, List.set_cons_zero, List.set_cons_succ, i64_w, i32_w]
                                        rfl
                                      refine pure_ (i := 2) (N := some 98) (v := ?_) (a' := ?_) #[true, true, true, false, false, false, false, false, false, false, false, false, false, false, false] rfl rfl (any_of HT_.out (by kernel_rfl)) (fun _ _ _ h => h) (Or.inl ⟨by rfl, ?_⟩) ?_ ?_
                                      rotate_left
                                      · intro w'
                                        go_simp
                                        with_reducible rfl
                                      rotate_left
                                      · simp only [Act.put, List.setIfInBounds_toArray, List.set_cons_zero, List.set_cons_succ, i64_w, i32_w]
                                        rfl
                                      refine pure_ (i := 3) (N := some 99) (v := ?_) (a' := ?_) #[true, true, true, true, false, false, false, false, false, false, false, false, false, false, false] rfl rfl (any_of HT_.out (by kernel_rfl)) (fun _ _ _ h => h) (Or.inl ⟨by rfl, ?_⟩) ?_ ?_
                                      rotate_left
                                      · intro w'
                                        go_simp
                                        with_reducible rfl
                                      rotate_left
                                      · simp only [Act.put, List.setIfInBounds_toArray, List.set_cons_zero, List.set_cons_succ, i64_w, i32_w]
                                        rfl
                                      refine pure_ (i := 4) (N := some 100) (v := ?_) (a' := ?_) #[true, true, true, true, true, false, false, false, false, false, false, false, false, false, false] rfl rfl (any_of HT_.out (by kernel_rfl)) (fun _ _ _ h => h) (Or.inl ⟨by rfl, ?_⟩) ?_ ?_
                                      rotate_left
                                      · intro w'
                                        go_simp
                                        with_reducible rfl
                                      rotate_left
                                      · simp only [Act.put, List.setIfInBounds_toArray, List.set_cons_zero, List.set_cons_succ, i64_w, i32_w]
                                        rfl
                                      refine pure_ (i := 5) (N := some 101) (v := ?_) (a' := ?_) #[true, true, true, true, true, true, false, false, false, false, false, false, false, false, false] rfl rfl (any_of HT_.out (by kernel_rfl)) (fun _ _ _ h => h) (Or.inl ⟨by rfl, ?_⟩) ?_ ?_
                                      rotate_left
                                      · intro w'
                                        go_simp
                                        with_reducible rfl
                                      rotate_left
                                      · simp only [Act.put, List.setIfInBounds_toArray, List.set_cons_zero, List.set_cons_succ, i64_w, i32_w]
                                        rfl
                                      refine pure_ (i := 6) (N := some 102) (v := ?_) (a' := ?_) #[true, true, true, true, true, true, true, false, false, false, false, false, false, false, false] rfl rfl (any_of HT_.out (by kernel_rfl)) (fun _ _ _ h => h) (Or.inl ⟨by rfl, ?_⟩) ?_ ?_
                                      rotate_left
                                      · intro w'
                                        go_simp
                                        with_reducible rfl
                                      rotate_left
                                      · simp only [Act.put, List.setIfInBounds_toArray, List.set_cons_zero, List.set_cons_succ, i64_w, i32_w]
                                        rfl
                                      refine pure_ (i := 7) (N := some 103) (v := ?_) (a' := ?_) #[true, true, true, true, true, true, true, true, false, false, false, false, false, false, false] rfl rfl (any_of HT_.out (by kernel_rfl)) (fun _ _ _ h => h) (Or.inl ⟨by rfl, ?_⟩) ?_ ?_
                                      rotate_left
                                      · intro w'
                                        go_simp
                                        with_reducible rfl
                                      rotate_left
                                      · simp only [Act.put, List.setIfInBounds_toArray, List.set_cons_zero, List.set_cons_succ, i64_w, i32_w]
                                        rfl
                                      refine pure_ (i := 8) (N := some 104) (v := ?_) (a' := ?_) #[true, true, true, true, true, true, true, true, true, false, false, false, false, false, false] rfl rfl (any_of HT_.out (by kernel_rfl)) (fun _ _ _ h => h) (Or.inl ⟨by rfl, ?_⟩) ?_ ?_
                                      rotate_left
                                      · intro w'
                                        go_simp
                                        with_reducible rfl
                                      rotate_left
                                      · simp only [Act.put, List.setIfInBounds_toArray, List.set_cons_zero, List.set_cons_succ, i64_w, i32_w]
                                        rfl
                                      refine one_ (i := 9) (N := none) #[true, true, true, true, true, true, true, true, true, true, false, false, false, false, false] rfl rfl (one_of HT_.out (by kernel_rfl)) (by decide) (fun K hK => ?_)
                                      have hs43 : w42.cell? ⟨gb191, 0, none⟩ = some (.int .i64 3) := (blk_cell BK191.out 0).trans rfl
                                      have hfs43 := blk_frozen BK191.out 0
                                      refine skip_ (w1 := ?_) (by rfl) rfl ?_ ?_
                                      rotate_left
                                      · go_simp
                                        rfl
                                      refine hK.out _ _ trivial (fun hHeld => ?_)
                                      clear hK K
                                      refine pure_ (i := 10) (N := some 105) (v := ?_) (a' := ?_) #[true, true, true, true, true, true, true, true, true, true, true, false, false, false, false] rfl rfl (any_of HT_.out (by kernel_rfl)) (fun _ _ _ h => h) (Or.inl ⟨by rfl, ?_⟩) ?_ ?_
                                      rotate_left
                                      · intro w'
                                        go_simp
                                        with_reducible rfl
                                      rotate_left
                                      · simp only [Act.put, List.setIfInBounds_toArray, List.set_cons_zero, List.set_cons_succ, i64_w, i32_w]
                                        rfl
                                      refine one_ (i := 11) (N := none) #[true, true, true, true, true, true, true, true, true, true, true, true, false, false, false] rfl rfl (one_of HT_.out (by kernel_rfl)) (by decide) (fun K hK => ?_)
                                      have hs44 : w42.cell? ⟨gb191, 1, none⟩ = some (.string (a0.extract (x10_1 : Int).toNat ((wrap64 (x10_1 + t186)) : Int).toNat)) := (blk_cell BK191.out 1).trans rfl
                                      have hfs44 := blk_frozen BK191.out 1
                                      refine skip_ (w1 := ?_) (by rfl) rfl ?_ ?_
                                      rotate_left
                                      · go_simp
                                        rfl
                                      refine hK.out _ _ trivial (fun hHeld => ?_)
                                      clear hK K
                                      refine pure_ (i := 12) (N := some 106) (v := ?_) (a' := ?_) #[true, true, true, true, true, true, true, true, true, true, true, true, true, false, false] rfl rfl (any_of HT_.out (by kernel_rfl)) (fun _ _ _ h => h) (Or.inl ⟨by rfl, ?_⟩) ?_ ?_
                                      rotate_left
                                      · intro w'
                                        go_simp
                                        with_reducible rfl
                                      rotate_left
                                      · simp only [Act.put, List.setIfInBounds_toArray, List.set_cons_zero, List.set_cons_succ, i64_w, i32_w]
                                        rfl
                                      refine one_ (i := 13) (N := none) #[true, true, true, true, true, true, true, true, true, true, true, true, true, true, false] rfl rfl (one_of HT_.out (by kernel_rfl)) (by decide) (fun K hK => ?_)
                                      have hs45 : w42.cell? ⟨gb191, 2, none⟩ = some (.int .i64 0) := (blk_cell BK191.out 2).trans rfl
                                      have hfs45 := blk_frozen BK191.out 2
                                      refine skip_ (w1 := ?_) (by rfl) rfl ?_ ?_
                                      rotate_left
                                      · go_simp
                                        rfl
                                      refine hK.out _ _ trivial (fun hHeld => ?_)
                                      clear hK K
                                      refine pure_ (i := 14) (N := some 14) (v := ?_) (a' := ?_) #[true, true, true, true, true, true, true, true, true, true, true, true, true, true, true] rfl rfl (any_of HT_.out (by kernel_rfl)) (fun _ _ _ h => h) (Or.inl ⟨by rfl, ?_⟩) ?_ ?_
                                      rotate_left
                                      · intro w'
                                        go_simp
                                        with_reducible rfl
                                      rotate_left
                                      · simp only [Act.put, List.setIfInBounds_toArray, List.set_cons_zero, List.set_cons_succ, i64_w, i32_w]
                                        rfl
                                      refine done_ (done_of HT_.out (by kernel_rfl)) ?_
                                      try go_wp2_with (first | ((with_reducible refine gate_callee (f := 95) rfl ?_); refine goesL_ (some 112) rfl rfl Tryz.func95 (by kernel_rfl) rfl #[.string a0, .int .i64 (wrap64 (x10_1 + t192))] rfl (by (try simp only [List.map_toArray, List.map_cons, List.map_nil]); first | done | rfl | (simp only [List.length_drop, List.length_take]; rfl)) ?_; (with_reducible refine (intarsiaref01_at.calls kj7 a0 (wrap64 (x10_1 + t192)) t195 t196 _ A27.out).mono ?_); rintro e w' ⟨rfl, ⟨nd, rfl⟩⟩; refine ⟨_, rfl, ?_⟩) | (go_at_call 99; (with_reducible refine (intarsiaref01_Letter.calls t195 false _ A29.out).mono ?_); rintro e w' ⟨rfl, ⟨nd, rfl⟩⟩; have hcz46_0 : w42.cell? ⟨gb191, 0, none⟩ = some (.int .i64 3) := (blk_cell BK191.out 0).trans rfl; have hcz46_1 : w42.cell? ⟨gb191, 1, none⟩ = some (.string (a0.extract (x10_1 : Int).toNat ((wrap64 (x10_1 + t186)) : Int).toNat)) := (blk_cell BK191.out 1).trans rfl; have hcz46_2 : w42.cell? ⟨gb191, 2, none⟩ = some (.int .i64 0) := (blk_cell BK191.out 2).trans rfl; have hcz46_3 : w42.cell? ⟨gb191, 3, none⟩ = some (.int .i64 x7_1) := (blk_cell BK191.out 3).trans rfl; have hcz46_4 : w42.cell? ⟨gb191, 4, none⟩ = some (.int .i64 x8_1) := (blk_cell BK191.out 4).trans rfl; have hfz46_0 := blk_frozen BK191.out 0; have hfz46_1 := blk_frozen BK191.out 1; have hfz46_2 := blk_frozen BK191.out 2; have hfz46_3 := blk_frozen BK191.out 3; have hfz46_4 := blk_frozen BK191.out 4) | ((with_reducible refine gate_builtin (b := .append) (xs := #[.tmp 153, .tmp 155]) rfl ?_); at_builtin; refine Kd.R_append k123 (w0 := w) w.heap.size rfl (.tmp 153) (.tmp 155) 117 123 (.agg #[(.int .i64 0), (.string ⟨#[]⟩), (.int .i64 0), (.int .i64 0), (.int .i64 0)]) 48 rfl Tryz.underlying117 info123 rfl (by decide) (by omega) u6 x6_1 (⟨2, a0.extract (x10_1 : Int).toNat ((wrap64 (x10_1 + t192)) : Int).toNat, t193, x7_1, x8_1⟩ : S123) [.int .i64 2, .string (a0.extract (x10_1 : Int).toNat ((wrap64 (x10_1 + t192)) : Int).toNat), .int .i64 t193, .int .i64 x7_1, .int .i64 x8_1] (fun k_ => k_ ≠ gb191) (fun _ => False) rfl (by first | (go_simp; done) | (go_simp; rfl)) ?aP (fun _ hk => hk.elim) ?aF ?aO ?aB ?aS ?aL ?_; (case aP => exact k123_mkM _ _ _ (⟨2, a0.extract (x10_1 : Int).toNat ((wrap64 (x10_1 + t192)) : Int).toNat, t193, x7_1, x8_1⟩ : S123)); (case aB => exact (by repeat (first | (with_reducible first | exact HB.out | apply below_alloc | apply pw_below_drewN | apply below_drew1 | refine below_set ?_ GE191.out) | exact HB.out))); (case aF => exact (fun k_ hk => Kd.freshB (g := gb191) (o := .cells #[.int .i64 2, .string (a0.extract (x10_1 : Int).toNat ((wrap64 (x10_1 + t192)) : Int).toNat), .int .i64 t193, .int .i64 x7_1, .int .i64 x8_1] 123 (0, 0)) (by (with_reducible repeat (first | refine blk_drewN ?_ _ | refine blk_drew ?_ | refine blk_alloc ?_ _)); refine blk_put (cs := #[.int .i64 2, .string (a0.extract (x10_1 : Int).toNat ((wrap64 (x10_1 + t192)) : Int).toNat), .int .i64 0, .int .i64 x7_1, .int .i64 x8_1]) ?_ 2 _ rfl; (with_reducible repeat (first | refine blk_drewN ?_ _ | refine blk_drew ?_ | refine blk_alloc ?_ _)); refine blk_put (cs := #[.int .i64 2, .string (a0.extract (x10_1 : Int).toNat ((wrap64 (x10_1 + t186)) : Int).toNat), .int .i64 0, .int .i64 x7_1, .int .i64 x8_1]) ?_ 1 _ rfl; (with_reducible repeat (first | refine blk_drewN ?_ _ | refine blk_drew ?_ | refine blk_alloc ?_ _)); refine blk_put (cs := #[.int .i64 3, .string (a0.extract (x10_1 : Int).toNat ((wrap64 (x10_1 + t186)) : Int).toNat), .int .i64 0, .int .i64 x7_1, .int .i64 x8_1]) ?_ 0 _ rfl; (with_reducible repeat (first | refine blk_drewN ?_ _ | refine blk_drew ?_ | refine blk_alloc ?_ _)); exact BK191.out) k_ hk)); (case aO => exact (by (with_reducible repeat (first | apply Kd.R_alloc | apply Kd.R_drewN | apply Kd.R_drew)); exact Kd.R_mono (Kd.R_far (p := ⟨gb191, 2, none⟩) (Kd.R_far (p := ⟨gb191, 1, none⟩) (Kd.R_far (p := ⟨gb191, 0, none⟩) (Kd.R_mono HO_6.out (fun k_ hk => (⟨hk, hk⟩ : _ ∧ k_ ≠ gb191))) (fun _ hk => hk.2) (.int .i64 2)) (fun _ hk => hk.2) (.string (a0.extract (x10_1 : Int).toNat ((wrap64 (x10_1 + t192)) : Int).toNat))) (fun _ hk => hk.2) (.int .i64 t193)) (fun _ hk => hk.1))); (case aS => exact (below_size (by repeat (first | (with_reducible first | exact HB.out | apply below_alloc | apply pw_below_drewN | apply below_drew1 | refine below_set ?_ GE191.out) | exact HB.out)))); (case aL => have := LMc38.out; omega); intro v199 w47 ho hb hg hat; rw [← Ny198.out] at ho; have n0_ := Aside0.mk (blk_grown (g := gb191) (o := .cells #[.int .i64 2, .string (a0.extract (x10_1 : Int).toNat ((wrap64 (x10_1 + t192)) : Int).toNat), .int .i64 t193, .int .i64 x7_1, .int .i64 x8_1] 123 (0, 0)) (by (with_reducible repeat (first | refine blk_drewN ?_ _ | refine blk_drew ?_ | refine blk_alloc ?_ _)); refine blk_put (cs := #[.int .i64 2, .string (a0.extract (x10_1 : Int).toNat ((wrap64 (x10_1 + t192)) : Int).toNat), .int .i64 0, .int .i64 x7_1, .int .i64 x8_1]) ?_ 2 _ rfl; (with_reducible repeat (first | refine blk_drewN ?_ _ | refine blk_drew ?_ | refine blk_alloc ?_ _)); refine blk_put (cs := #[.int .i64 2, .string (a0.extract (x10_1 : Int).toNat ((wrap64 (x10_1 + t186)) : Int).toNat), .int .i64 0, .int .i64 x7_1, .int .i64 x8_1]) ?_ 1 _ rfl; (with_reducible repeat (first | refine blk_drewN ?_ _ | refine blk_drew ?_ | refine blk_alloc ?_ _)); refine blk_put (cs := #[.int .i64 3, .string (a0.extract (x10_1 : Int).toNat ((wrap64 (x10_1 + t186)) : Int).toNat), .int .i64 0, .int .i64 x7_1, .int .i64 x8_1]) ?_ 0 _ rfl; (with_reducible repeat (first | refine blk_drewN ?_ _ | refine blk_drew ?_ | refine blk_alloc ?_ _)); exact BK191.out) hg (Kd.R_away HO_6.out (fun _ hk => hk))); have n1_ := Aside0.mk (hb); have n2_ := Aside0.mk (ho); clear BK191; clear HB; clear HO_6; have BK191 := n0_; have HB := n1_; have HO200 := n2_; clear n0_ n1_ n2_; clear ho hb hg hat; have hcz48_0 : w47.cell? ⟨gb191, 0, none⟩ = some (.int .i64 2) := (blk_cell BK191.out 0).trans rfl; have hcz48_1 : w47.cell? ⟨gb191, 1, none⟩ = some (.string (a0.extract (x10_1 : Int).toNat ((wrap64 (x10_1 + t192)) : Int).toNat)) := (blk_cell BK191.out 1).trans rfl; have hcz48_2 : w47.cell? ⟨gb191, 2, none⟩ = some (.int .i64 t193) := (blk_cell BK191.out 2).trans rfl; have hcz48_3 : w47.cell? ⟨gb191, 3, none⟩ = some (.int .i64 x7_1) := (blk_cell BK191.out 3).trans rfl; have hcz48_4 : w47.cell? ⟨gb191, 4, none⟩ = some (.int .i64 x8_1) := (blk_cell BK191.out 4).trans rfl; have hfz48_0 := blk_frozen BK191.out 0; have hfz48_1 := blk_frozen BK191.out 1; have hfz48_2 := blk_frozen BK191.out 2; have hfz48_3 := blk_frozen BK191.out 3; have hfz48_4 := blk_frozen BK191.out 4))
                                      go_roundg kj7
                                      case measure => have := HK1.out; have := HJ7.out; omega
                                      case rel => exact ⟨(y198), (x7_1), (wrap64 (x8_1 + t192)), (x9_1), (wrap64 (x10_1 + ((a0.extract (x10_1 : Int).toNat ((wrap64 (x10_1 + t192)) : Int).toNat).size : Int))), (by first | rfl | (simp; done) | (simp [*]; done)), (by first | rfl | (simp; done) | (simp [*]; done)), (by first | rfl | (simp; done) | (simp [*]; done)), (by first | rfl | (simp; done) | (simp [*]; done)), H', ⟨by have := HK1.out; have := HJ7.out; omega⟩, ⟨by (with_reducible repeat (first | apply Kd.R_alloc | apply Kd.R_drewN | apply Kd.R_drew)); exact Kd.R_mono HO200.out (fun _ hk => trivial)⟩, ⟨by repeat (first | (with_reducible first | exact HB.out | apply below_alloc | apply pw_below_drewN | apply below_drew1 | refine below_set ?_ GE191.out) | exact HB.out)⟩⟩
                                    · rw [if_neg c38] at H
                                      exact absurd H (by simp)
                                · rw [if_neg c28] at H
                                  have c28b0 : decide (0 < t196) = false := decide_eq_false c28
                                  clear c28
                                  by_cases c49 : x6_1.length < 2932031007402
                                  · rw [if_pos c49] at H
                                    have LMc49 := Aside0.mk c49
                                    clear c49
                                    obtain ⟨y201, hy201⟩ : ∃ y_ : List (S123), y_ = (x6_1 ++ [(⟨2, a0.extract (x10_1 : Int).toNat ((wrap64 (x10_1 + t192)) : Int).toNat, t193, x7_1, x8_1⟩ : S123)]) := ⟨_, rfl⟩
                                    replace H : (intarsiaref01_Read.l0 kj7 a0 y201 x7_1 (wrap64 (x8_1 + t192)) x9_1 (wrap64 (x10_1 + ((a0.extract (x10_1 : Int).toNat ((wrap64 (x10_1 + t192)) : Int).toNat).size : Int)))) = some (r1, r2, r3, r4) := by first | (rw [hy201]; with_reducible exact H) | (have H2_ := (Option.bind_some _ _).symm.trans H; rw [hy201]; with_reducible exact H2_) | (have H2_ := (Option.bind_some _ _).symm.trans H; with_reducible exact H2_) | with_reducible exact H | (rw [hy201]; exact H) | exact H
                                    have Ny201 := Aside0.mk hy201
                                    clear hy201
                                    have H' := Aside0.mk H
                                    clear H
                                    try go_wp2_with (first | ((with_reducible refine gate_dst (N := 13) rfl ?_); refine box_event ?hg (N := 13) ?hd (cs := #[.int .i64 0, .string (⟨#[]⟩ : ByteArray), .int .i64 0, .int .i64 0, .int .i64 0]) (t := 123) ?hr ?_; (case hd => rfl); (case hg => rfl); (case hr => first | (go_simp; done) | (go_simp; rfl)); intro gb191 hg w50 hbox hb; have n0_ := Aside0.mk (Kd.R_below (Kd.R_elderB (by (with_reducible repeat (first | apply Kd.R_alloc | apply Kd.R_drewN | apply Kd.R_drew)); exact HO_6.out) gb191 (Nat.le_of_eq hg.symm)) hb); have n1_ := Aside0.mk (below_step (by repeat (first | (with_reducible first | exact HB.out | apply below_alloc | apply pw_below_drewN | apply below_drew1) | exact HB.out)) hb); have n2_ := Aside0.mk (hbox); have n3_ := Aside0.mk ((by rw [hg]; exact (below_size (by repeat (first | (with_reducible first | exact HB.out | apply below_alloc | apply pw_below_drewN | apply below_drew1) | exact HB.out))) : w.heap.size ≤ gb191)); have n4_ := Aside0.mk ((by rw [hg]; exact (below_size (by repeat (first | (with_reducible first | exact HB.out | apply below_alloc | apply pw_below_drewN | apply below_drew1) | exact HB.out))) : w.heap.size ≤ gb191)); clear HO_6; clear HB; have HO_6 := n0_; have HB := n1_; have BK191 := n2_; have GW191 := n3_; have GE191 := n4_; clear n0_ n1_ n2_ n3_ n4_; clear hb hbox hg; have hcz51_0 : w50.cell? ⟨gb191, 0, none⟩ = some (.int .i64 0) := (blk_cell BK191.out 0).trans rfl; have hcz51_1 : w50.cell? ⟨gb191, 1, none⟩ = some (.string (⟨#[]⟩ : ByteArray)) := (blk_cell BK191.out 1).trans rfl; have hcz51_2 : w50.cell? ⟨gb191, 2, none⟩ = some (.int .i64 0) := (blk_cell BK191.out 2).trans rfl; have hcz51_3 : w50.cell? ⟨gb191, 3, none⟩ = some (.int .i64 0) := (blk_cell BK191.out 3).trans rfl; have hcz51_4 : w50.cell? ⟨gb191, 4, none⟩ = some (.int .i64 0) := (blk_cell BK191.out 4).trans rfl; have hfz51_0 := blk_frozen BK191.out 0; have hfz51_1 := blk_frozen BK191.out 1; have hfz51_2 := blk_frozen BK191.out 2; have hfz51_3 := blk_frozen BK191.out 3; have hfz51_4 := blk_frozen BK191.out 4) | ((with_reducible refine gate_callee (f := 97) rfl ?_); refine goesL_ (some 78) rfl rfl Tryz.func97 (by kernel_rfl) rfl #[.string a0, .int .i64 x10_1] rfl (by (try simp only [List.map_toArray, List.map_cons, List.map_nil]); first | done | rfl | (simp only [List.length_drop, List.length_take]; rfl)) ?_; (with_reducible refine (intarsiaref01_numbers.calls kj7 a0 x10_1 t192 _ A17.out).mono ?_); rintro e w' ⟨rfl, ⟨nd, rfl⟩⟩; refine ⟨_, rfl, ?_⟩) | ((with_reducible refine gate_callee (f := 98) rfl ?_); refine goesL_ (some 89) rfl rfl Tryz.func98 (by kernel_rfl) rfl #[.string (a0.extract (x10_1 : Int).toNat ((wrap64 (x10_1 + t192)) : Int).toNat)] rfl (by (try simp only [List.map_toArray, List.map_cons, List.map_nil]); first | done | rfl | (simp only [List.length_drop, List.length_take]; rfl)) ?_; (with_reducible refine (intarsiaref01_value.calls kj7 (a0.extract (x10_1 : Int).toNat ((wrap64 (x10_1 + t192)) : Int).toNat) t193 true _ A22.out).mono ?_); rintro e w' ⟨rfl, ⟨nd, rfl⟩⟩; refine ⟨_, rfl, ?_⟩))
                                    have n0_ : Aside0 (Kd.R k123 123 (((((w50.setCell ⟨gb191, 0, none⟩ (.int .i64 3)).setCell ⟨gb191, 1, none⟩ (.string (a0.extract (x10_1 : Int).toNat ((wrap64 (x10_1 + t186)) : Int).toNat))).setCell ⟨gb191, 2, none⟩ (.int .i64 0)).setCell ⟨gb191, 3, none⟩ (.int .i64 x7_1)).setCell ⟨gb191, 4, none⟩ (.int .i64 x8_1)) w.heap.size (fun k_ => k_ ≠ gb191) u6 x6_1) := ⟨by (with_reducible repeat (first | apply Kd.R_alloc | apply Kd.R_drewN | apply Kd.R_drew)); exact Kd.R_mono (Kd.R_far (p := ⟨gb191, 4, none⟩) (Kd.R_far (p := ⟨gb191, 3, none⟩) (Kd.R_far (p := ⟨gb191, 2, none⟩) (Kd.R_far (p := ⟨gb191, 1, none⟩) (Kd.R_far (p := ⟨gb191, 0, none⟩) (Kd.R_mono HO_6.out (fun k_ hk => (⟨hk, hk.2⟩ : _ ∧ k_ ≠ gb191))) (fun _ hk => hk.2) (.int .i64 3)) (fun _ hk => hk.2) (.string (a0.extract (x10_1 : Int).toNat ((wrap64 (x10_1 + t186)) : Int).toNat))) (fun _ hk => hk.2) (.int .i64 0)) (fun _ hk => hk.2) (.int .i64 x7_1)) (fun _ hk => hk.2) (.int .i64 x8_1)) (fun _ hk => hk.1.2)⟩
                                    have n1_ : Aside0 ((((((w50.setCell ⟨gb191, 0, none⟩ (.int .i64 3)).setCell ⟨gb191, 1, none⟩ (.string (a0.extract (x10_1 : Int).toNat ((wrap64 (x10_1 + t186)) : Int).toNat))).setCell ⟨gb191, 2, none⟩ (.int .i64 0)).setCell ⟨gb191, 3, none⟩ (.int .i64 x7_1)).setCell ⟨gb191, 4, none⟩ (.int .i64 x8_1)).heap[gb191]? = some (.cells #[.int .i64 3, .string (a0.extract (x10_1 : Int).toNat ((wrap64 (x10_1 + t186)) : Int).toNat), .int .i64 0, .int .i64 x7_1, .int .i64 x8_1] 123 (0, 0))) := ⟨by (with_reducible repeat (first | refine blk_drewN ?_ _ | refine blk_drew ?_ | refine blk_alloc ?_ _)); refine blk_put (cs := #[.int .i64 3, .string (a0.extract (x10_1 : Int).toNat ((wrap64 (x10_1 + t186)) : Int).toNat), .int .i64 0, .int .i64 x7_1, .int .i64 0]) ?_ 4 _ rfl; (with_reducible repeat (first | refine blk_drewN ?_ _ | refine blk_drew ?_ | refine blk_alloc ?_ _)); refine blk_put (cs := #[.int .i64 3, .string (a0.extract (x10_1 : Int).toNat ((wrap64 (x10_1 + t186)) : Int).toNat), .int .i64 0, .int .i64 0, .int .i64 0]) ?_ 3 _ rfl; (with_reducible repeat (first | refine blk_drewN ?_ _ | refine blk_drew ?_ | refine blk_alloc ?_ _)); refine blk_put (cs := #[.int .i64 3, .string (a0.extract (x10_1 : Int).toNat ((wrap64 (x10_1 + t186)) : Int).toNat), .int .i64 0, .int .i64 0, .int .i64 0]) ?_ 2 _ rfl; (with_reducible repeat (first | refine blk_drewN ?_ _ | refine blk_drew ?_ | refine blk_alloc ?_ _)); refine blk_put (cs := #[.int .i64 3, .string (⟨#[]⟩ : ByteArray), .int .i64 0, .int .i64 0, .int .i64 0]) ?_ 1 _ rfl; (with_reducible repeat (first | refine blk_drewN ?_ _ | refine blk_drew ?_ | refine blk_alloc ?_ _)); refine blk_put (cs := #[.int .i64 0, .string (⟨#[]⟩ : ByteArray), .int .i64 0, .int .i64 0, .int .i64 0]) ?_ 0 _ rfl; (with_reducible repeat (first | refine blk_drewN ?_ _ | refine blk_drew ?_ | refine blk_alloc ?_ _)); exact BK191.out⟩
                                    have n2_ : Aside0 (Below w.heap.size w (((((w50.setCell ⟨gb191, 0, none⟩ (.int .i64 3)).setCell ⟨gb191, 1, none⟩ (.string (a0.extract (x10_1 : Int).toNat ((wrap64 (x10_1 + t186)) : Int).toNat))).setCell ⟨gb191, 2, none⟩ (.int .i64 0)).setCell ⟨gb191, 3, none⟩ (.int .i64 x7_1)).setCell ⟨gb191, 4, none⟩ (.int .i64 x8_1))) := ⟨by repeat (first | (with_reducible first | exact HB.out | apply below_alloc | apply pw_below_drewN | apply below_drew1 | refine below_set ?_ GE191.out) | exact HB.out)⟩
                                    (try clear HO_6)
                                    (try clear BK191)
                                    (try clear HB)
                                    generalize (((((w50.setCell ⟨gb191, 0, none⟩ (.int .i64 3)).setCell ⟨gb191, 1, none⟩ (.string (a0.extract (x10_1 : Int).toNat ((wrap64 (x10_1 + t186)) : Int).toNat))).setCell ⟨gb191, 2, none⟩ (.int .i64 0)).setCell ⟨gb191, 3, none⟩ (.int .i64 x7_1)).setCell ⟨gb191, 4, none⟩ (.int .i64 x8_1)) = w52 at n0_ n1_ n2_ ⊢
                                    have HO_6 := n0_
                                    have BK191 := n1_
                                    have HB := n2_
                                    clear n0_ n1_ n2_
                                    (try (rw [drewN_self w52]; generalize hq_ : World.drewN w52 _ = w52; have n0_ : Aside0 (Kd.R k123 123 w52 w.heap.size (fun k_ => k_ ≠ gb191) u6 x6_1) := ⟨by rw [← hq_]; exact (by (with_reducible repeat (first | apply Kd.R_alloc | apply Kd.R_drewN | apply Kd.R_drew)); exact HO_6.out)⟩; have n1_ : Aside0 (w52.heap[gb191]? = some (.cells #[.int .i64 3, .string (a0.extract (x10_1 : Int).toNat ((wrap64 (x10_1 + t186)) : Int).toNat), .int .i64 0, .int .i64 x7_1, .int .i64 x8_1] 123 (0, 0))) := ⟨by rw [← hq_]; exact (by (with_reducible repeat (first | refine blk_drewN ?_ _ | refine blk_drew ?_ | refine blk_alloc ?_ _)); exact BK191.out)⟩; have n2_ : Aside0 (Below w.heap.size w w52) := ⟨by rw [← hq_]; exact (by repeat (first | (with_reducible first | exact HB.out | apply below_alloc | apply pw_below_drewN | apply below_drew1 | refine below_set ?_ GE191.out) | exact HB.out))⟩; clear HO_6 BK191 HB hq_; have HO_6 := n0_; have BK191 := n1_; have HB := n2_; clear n0_ n1_ n2_))
                                    have n0_ := Aside0.mk (Kd.R_drew HO_6.out)
                                    have n1_ := Aside0.mk (blk_drew BK191.out)
                                    have n2_ := Aside0.mk (below_drew1 HB.out)
                                    clear HO_6
                                    clear BK191
                                    clear HB
                                    have HO_6 := n0_
                                    have BK191 := n1_
                                    have HB := n2_
                                    clear n0_ n1_ n2_
                                    refine start_ (n := 15) (S := fun w' => True) (ds := []) #[false, false, false, false, false, false, false, false, false, false, false, false, false, false, false] (by kernel_rfl) rfl rfl trivial (fun hHeld => ?_); refine with_tabW intarsiaref01_Read.tab26 intarsiaref01_Read.bits26 (fun HT_ HW_ => ?_)
                                    generalize w52.drew = w53 at HO_6 BK191 HB hHeld ⊢
                                    refine pure_ (i := 0) (N := some 96) (v := ?_) (a' := ?_) #[true, false, false, false, false, false, false, false, false, false, false, false, false, false, false] rfl rfl (any_of HT_.out (by kernel_rfl)) (fun _ _ _ h => h) (Or.inl ⟨by rfl, ?_⟩) ?_ ?_
                                    rotate_left
                                    · intro w'
                                      go_simp
                                      with_reducible rfl
                                    rotate_left
                                    · simp only [Act.put, List.setIfInBounds_toArray, List.set_cons_zero, List.set_cons_succ, i64_w, i32_w]
                                      rfl
                                    refine pure_ (i := 1) (N := some 97) (v := ?_) (a' := ?_) #[true, true, false, false, false, false, false, false, false, false, false, false, false, false, false] rfl rfl (any_of HT_.out (by kernel_rfl)) (fun _ _ _ h => h) (Or.inl ⟨by rfl, ?_⟩) ?_ ?_
                                    rotate_left
                                    · intro w'
                                      go_simp
                                      with_reducible rfl
                                    rotate_left
                                    · simp only [Act.put, List.setIfInBounds_toArray, List.set_cons_zero, List.set_cons_succ, i64_w, i32_w]
                                      rfl
                                    refine pure_ (i := 2) (N := some 98) (v := ?_) (a' := ?_) #[true, true, true, false, false, false, false, false, false, false, false, false, false, false, false] rfl rfl (any_of HT_.out (by kernel_rfl)) (fun _ _ _ h => h) (Or.inl ⟨by rfl, ?_⟩) ?_ ?_
                                    rotate_left
                                    · intro w'
                                      go_simp
                                      with_reducible rfl
                                    rotate_left
                                    · simp only [Act.put, List.setIfInBounds_toArray, List.set_cons_zero, List.set_cons_succ, i64_w, i32_w]
                                      rfl
                                    refine pure_ (i := 3) (N := some 99) (v := ?_) (a' := ?_) #[true, true, true, true, false, false, false, false, false, false, false, false, false, false, false] rfl rfl (any_of HT_.out (by kernel_rfl)) (fun _ _ _ h => h) (Or.inl ⟨by rfl, ?_⟩) ?_ ?_
                                    rotate_left
                                    · intro w'
                                      go_simp
                                      with_reducible rfl
                                    rotate_left
                                    · simp only [Act.put, List.setIfInBounds_toArray, List.set_cons_zero, List.set_cons_succ, i64_w, i32_w]
                                      rfl
                                    refine pure_ (i := 4) (N := some 100) (v := ?_) (a' := ?_) #[true, true, true, true, true, false, false, false, false, false, false, false, false, false, false] rfl rfl (any_of HT_.out (by kernel_rfl)) (fun _ _ _ h => h) (Or.inl ⟨by rfl, ?_⟩) ?_ ?_
                                    rotate_left
                                    · intro w'
                                      go_simp
                                      with_reducible rfl
                                    rotate_left
                                    · simp only [Act.put, List.setIfInBounds_toArray, List.set_cons_zero, List.set_cons_succ, i64_w, i32_w]
                                      rfl
                                    refine pure_ (i := 5) (N := some 101) (v := ?_) (a' := ?_) #[true, true, true, true, true, true, false, false, false, false, false, false, false, false, false] rfl rfl (any_of HT_.out (by kernel_rfl)) (fun _ _ _ h => h) (Or.inl ⟨by rfl, ?_⟩) ?_ ?_
                                    rotate_left
                                    · intro w'
                                      go_simp
                                      with_reducible rfl
                                    rotate_left
                                    · simp only [Act.put, List.setIfInBounds_toArray, List.set_cons_zero, List.set_cons_succ, i64_w, i32_w]
                                      rfl
                                    refine pure_ (i := 6) (N := some 102) (v := ?_) (a' := ?_) #[true, true, true, true, true, true, true, false, false, false, false, false, false, false, false] rfl rfl (any_of HT_.out (by kernel_rfl)) (fun _ _ _ h => h) (Or.inl ⟨by rfl, ?_⟩) ?_ ?_
                                    rotate_left
                                    · intro w'
                                      go_simp
                                      with_reducible rfl
                                    rotate_left
                                    · simp only [Act.put, List.setIfInBounds_toArray, List.set_cons_zero, List.set_cons_succ, i64_w, i32_w]
                                      rfl
                                    refine pure_ (i := 7) (N := some 103) (v := ?_) (a' := ?_) #[true, true, true, true, true, true, true, true, false, false, false, false, false, false, false] rfl rfl (any_of HT_.out (by kernel_rfl)) (fun _ _ _ h => h) (Or.inl ⟨by rfl, ?_⟩) ?_ ?_
                                    rotate_left
                                    · intro w'
                                      go_simp
                                      with_reducible rfl
                                    rotate_left
                                    · simp only [Act.put, List.setIfInBounds_toArray, List.set_cons_zero, List.set_cons_succ, i64_w, i32_w]
                                      rfl
                                    refine pure_ (i := 8) (N := some 104) (v := ?_) (a' := ?_) #[true, true, true, true, true, true, true, true, true, false, false, false, false, false, false] rfl rfl (any_of HT_.out (by kernel_rfl)) (fun _ _ _ h => h) (Or.inl ⟨by rfl, ?_⟩) ?_ ?_
                                    rotate_left
                                    · intro w'
                                      go_simp
                                      with_reducible rfl
                                    rotate_left
                                    · simp only [Act.put, List.setIfInBounds_toArray, List.set_cons_zero, List.set_cons_succ, i64_w, i32_w]
                                      rfl
                                    refine one_ (i := 9) (N := none) #[true, true, true, true, true, true, true, true, true, true, false, false, false, false, false] rfl rfl (one_of HT_.out (by kernel_rfl)) (by decide) (fun K hK => ?_)
                                    have hs54 : w53.cell? ⟨gb191, 0, none⟩ = some (.int .i64 3) := (blk_cell BK191.out 0).trans rfl
                                    have hfs54 := blk_frozen BK191.out 0
                                    refine skip_ (w1 := ?_) (by rfl) rfl ?_ ?_
                                    rotate_left
                                    · go_simp
                                      rfl
                                    refine hK.out _ _ trivial (fun hHeld => ?_)
                                    clear hK K
                                    refine pure_ (i := 10) (N := some 105) (v := ?_) (a' := ?_) #[true, true, true, true, true, true, true, true, true, true, true, false, false, false, false] rfl rfl (any_of HT_.out (by kernel_rfl)) (fun _ _ _ h => h) (Or.inl ⟨by rfl, ?_⟩) ?_ ?_
                                    rotate_left
                                    · intro w'
                                      go_simp
                                      with_reducible rfl
                                    rotate_left
                                    · simp only [Act.put, List.setIfInBounds_toArray, List.set_cons_zero, List.set_cons_succ, i64_w, i32_w]
                                      rfl
                                    refine one_ (i := 11) (N := none) #[true, true, true, true, true, true, true, true, true, true, true, true, false, false, false] rfl rfl (one_of HT_.out (by kernel_rfl)) (by decide) (fun K hK => ?_)
                                    have hs55 : w53.cell? ⟨gb191, 1, none⟩ = some (.string (a0.extract (x10_1 : Int).toNat ((wrap64 (x10_1 + t186)) : Int).toNat)) := (blk_cell BK191.out 1).trans rfl
                                    have hfs55 := blk_frozen BK191.out 1
                                    refine skip_ (w1 := ?_) (by rfl) rfl ?_ ?_
                                    rotate_left
                                    · go_simp
                                      rfl
                                    refine hK.out _ _ trivial (fun hHeld => ?_)
                                    clear hK K
                                    refine pure_ (i := 12) (N := some 106) (v := ?_) (a' := ?_) #[true, true, true, true, true, true, true, true, true, true, true, true, true, false, false] rfl rfl (any_of HT_.out (by kernel_rfl)) (fun _ _ _ h => h) (Or.inl ⟨by rfl, ?_⟩) ?_ ?_
                                    rotate_left
                                    · intro w'
                                      go_simp
                                      with_reducible rfl
                                    rotate_left
                                    · simp only [Act.put, List.setIfInBounds_toArray, List.set_cons_zero, List.set_cons_succ, i64_w, i32_w]
                                      rfl
                                    refine one_ (i := 13) (N := none) #[true, true, true, true, true, true, true, true, true, true, true, true, true, true, false] rfl rfl (one_of HT_.out (by kernel_rfl)) (by decide) (fun K hK => ?_)
                                    have hs56 : w53.cell? ⟨gb191, 2, none⟩ = some (.int .i64 0) := (blk_cell BK191.out 2).trans rfl
                                    have hfs56 := blk_frozen BK191.out 2
                                    refine skip_ (w1 := ?_) (by rfl) rfl ?_ ?_
                                    rotate_left
                                    · go_simp
                                      rfl
                                    refine hK.out _ _ trivial (fun hHeld => ?_)
                                    clear hK K
                                    refine pure_ (i := 14) (N := some 14) (v := ?_) (a' := ?_) #[true, true, true, true, true, true, true, true, true, true, true, true, true, true, true] rfl rfl (any_of HT_.out (by kernel_rfl)) (fun _ _ _ h => h) (Or.inl ⟨by rfl, ?_⟩) ?_ ?_
                                    rotate_left
                                    · intro w'
                                      go_simp
                                      with_reducible rfl
                                    rotate_left
                                    · simp only [Act.put, List.setIfInBounds_toArray, List.set_cons_zero, List.set_cons_succ, i64_w, i32_w]
                                      rfl
                                    refine done_ (done_of HT_.out (by kernel_rfl)) ?_
                                    try go_wp2_with (first | ((with_reducible refine gate_callee (f := 95) rfl ?_); refine goesL_ (some 112) rfl rfl Tryz.func95 (by kernel_rfl) rfl #[.string a0, .int .i64 (wrap64 (x10_1 + t192))] rfl (by (try simp only [List.map_toArray, List.map_cons, List.map_nil]); first | done | rfl | (simp only [List.length_drop, List.length_take]; rfl)) ?_; (with_reducible refine (intarsiaref01_at.calls kj7 a0 (wrap64 (x10_1 + t192)) t195 t196 _ A27.out).mono ?_); rintro e w' ⟨rfl, ⟨nd, rfl⟩⟩; refine ⟨_, rfl, ?_⟩; have hcz57_0 : w53.cell? ⟨gb191, 0, none⟩ = some (.int .i64 3) := (blk_cell BK191.out 0).trans rfl; have hcz57_1 : w53.cell? ⟨gb191, 1, none⟩ = some (.string (a0.extract (x10_1 : Int).toNat ((wrap64 (x10_1 + t186)) : Int).toNat)) := (blk_cell BK191.out 1).trans rfl; have hcz57_2 : w53.cell? ⟨gb191, 2, none⟩ = some (.int .i64 0) := (blk_cell BK191.out 2).trans rfl; have hcz57_3 : w53.cell? ⟨gb191, 3, none⟩ = some (.int .i64 x7_1) := (blk_cell BK191.out 3).trans rfl; have hcz57_4 : w53.cell? ⟨gb191, 4, none⟩ = some (.int .i64 x8_1) := (blk_cell BK191.out 4).trans rfl; have hfz57_0 := blk_frozen BK191.out 0; have hfz57_1 := blk_frozen BK191.out 1; have hfz57_2 := blk_frozen BK191.out 2; have hfz57_3 := blk_frozen BK191.out 3; have hfz57_4 := blk_frozen BK191.out 4) | ((with_reducible refine gate_builtin (b := .append) (xs := #[.tmp 153, .tmp 155]) rfl ?_); at_builtin; refine Kd.R_append k123 (w0 := w) w.heap.size rfl (.tmp 153) (.tmp 155) 117 123 (.agg #[(.int .i64 0), (.string ⟨#[]⟩), (.int .i64 0), (.int .i64 0), (.int .i64 0)]) 48 rfl Tryz.underlying117 info123 rfl (by decide) (by omega) u6 x6_1 (⟨2, a0.extract (x10_1 : Int).toNat ((wrap64 (x10_1 + t192)) : Int).toNat, t193, x7_1, x8_1⟩ : S123) [.int .i64 2, .string (a0.extract (x10_1 : Int).toNat ((wrap64 (x10_1 + t192)) : Int).toNat), .int .i64 t193, .int .i64 x7_1, .int .i64 x8_1] (fun k_ => k_ ≠ gb191) (fun _ => False) rfl (by first | (go_simp; done) | (go_simp; rfl)) ?aP (fun _ hk => hk.elim) ?aF ?aO ?aB ?aS ?aL ?_; (case aP => exact k123_mkM _ _ _ (⟨2, a0.extract (x10_1 : Int).toNat ((wrap64 (x10_1 + t192)) : Int).toNat, t193, x7_1, x8_1⟩ : S123)); (case aB => exact (by repeat (first | (with_reducible first | exact HB.out | apply below_alloc | apply pw_below_drewN | apply below_drew1 | refine below_set ?_ GE191.out) | exact HB.out))); (case aF => exact (fun k_ hk => Kd.freshB (g := gb191) (o := .cells #[.int .i64 2, .string (a0.extract (x10_1 : Int).toNat ((wrap64 (x10_1 + t192)) : Int).toNat), .int .i64 t193, .int .i64 x7_1, .int .i64 x8_1] 123 (0, 0)) (by (with_reducible repeat (first | refine blk_drewN ?_ _ | refine blk_drew ?_ | refine blk_alloc ?_ _)); refine blk_put (cs := #[.int .i64 2, .string (a0.extract (x10_1 : Int).toNat ((wrap64 (x10_1 + t192)) : Int).toNat), .int .i64 0, .int .i64 x7_1, .int .i64 x8_1]) ?_ 2 _ rfl; (with_reducible repeat (first | refine blk_drewN ?_ _ | refine blk_drew ?_ | refine blk_alloc ?_ _)); refine blk_put (cs := #[.int .i64 2, .string (a0.extract (x10_1 : Int).toNat ((wrap64 (x10_1 + t186)) : Int).toNat), .int .i64 0, .int .i64 x7_1, .int .i64 x8_1]) ?_ 1 _ rfl; (with_reducible repeat (first | refine blk_drewN ?_ _ | refine blk_drew ?_ | refine blk_alloc ?_ _)); refine blk_put (cs := #[.int .i64 3, .string (a0.extract (x10_1 : Int).toNat ((wrap64 (x10_1 + t186)) : Int).toNat), .int .i64 0, .int .i64 x7_1, .int .i64 x8_1]) ?_ 0 _ rfl; (with_reducible repeat (first | refine blk_drewN ?_ _ | refine blk_drew ?_ | refine blk_alloc ?_ _)); exact BK191.out) k_ hk)); (case aO => exact (by (with_reducible repeat (first | apply Kd.R_alloc | apply Kd.R_drewN | apply Kd.R_drew)); exact Kd.R_mono (Kd.R_far (p := ⟨gb191, 2, none⟩) (Kd.R_far (p := ⟨gb191, 1, none⟩) (Kd.R_far (p := ⟨gb191, 0, none⟩) (Kd.R_mono HO_6.out (fun k_ hk => (⟨hk, hk⟩ : _ ∧ k_ ≠ gb191))) (fun _ hk => hk.2) (.int .i64 2)) (fun _ hk => hk.2) (.string (a0.extract (x10_1 : Int).toNat ((wrap64 (x10_1 + t192)) : Int).toNat))) (fun _ hk => hk.2) (.int .i64 t193)) (fun _ hk => hk.1))); (case aS => exact (below_size (by repeat (first | (with_reducible first | exact HB.out | apply below_alloc | apply pw_below_drewN | apply below_drew1 | refine below_set ?_ GE191.out) | exact HB.out)))); (case aL => have := LMc49.out; omega); intro v202 w58 ho hb hg hat; rw [← Ny201.out] at ho; have n0_ := Aside0.mk (blk_grown (g := gb191) (o := .cells #[.int .i64 2, .string (a0.extract (x10_1 : Int).toNat ((wrap64 (x10_1 + t192)) : Int).toNat), .int .i64 t193, .int .i64 x7_1, .int .i64 x8_1] 123 (0, 0)) (by (with_reducible repeat (first | refine blk_drewN ?_ _ | refine blk_drew ?_ | refine blk_alloc ?_ _)); refine blk_put (cs := #[.int .i64 2, .string (a0.extract (x10_1 : Int).toNat ((wrap64 (x10_1 + t192)) : Int).toNat), .int .i64 0, .int .i64 x7_1, .int .i64 x8_1]) ?_ 2 _ rfl; (with_reducible repeat (first | refine blk_drewN ?_ _ | refine blk_drew ?_ | refine blk_alloc ?_ _)); refine blk_put (cs := #[.int .i64 2, .string (a0.extract (x10_1 : Int).toNat ((wrap64 (x10_1 + t186)) : Int).toNat), .int .i64 0, .int .i64 x7_1, .int .i64 x8_1]) ?_ 1 _ rfl; (with_reducible repeat (first | refine blk_drewN ?_ _ | refine blk_drew ?_ | refine blk_alloc ?_ _)); refine blk_put (cs := #[.int .i64 3, .string (a0.extract (x10_1 : Int).toNat ((wrap64 (x10_1 + t186)) : Int).toNat), .int .i64 0, .int .i64 x7_1, .int .i64 x8_1]) ?_ 0 _ rfl; (with_reducible repeat (first | refine blk_drewN ?_ _ | refine blk_drew ?_ | refine blk_alloc ?_ _)); exact BK191.out) hg (Kd.R_away HO_6.out (fun _ hk => hk))); have n1_ := Aside0.mk (hb); have n2_ := Aside0.mk (ho); clear BK191; clear HB; clear HO_6; have BK191 := n0_; have HB := n1_; have HO203 := n2_; clear n0_ n1_ n2_; clear ho hb hg hat; have hcz59_0 : w58.cell? ⟨gb191, 0, none⟩ = some (.int .i64 2) := (blk_cell BK191.out 0).trans rfl; have hcz59_1 : w58.cell? ⟨gb191, 1, none⟩ = some (.string (a0.extract (x10_1 : Int).toNat ((wrap64 (x10_1 + t192)) : Int).toNat)) := (blk_cell BK191.out 1).trans rfl; have hcz59_2 : w58.cell? ⟨gb191, 2, none⟩ = some (.int .i64 t193) := (blk_cell BK191.out 2).trans rfl; have hcz59_3 : w58.cell? ⟨gb191, 3, none⟩ = some (.int .i64 x7_1) := (blk_cell BK191.out 3).trans rfl; have hcz59_4 : w58.cell? ⟨gb191, 4, none⟩ = some (.int .i64 x8_1) := (blk_cell BK191.out 4).trans rfl; have hfz59_0 := blk_frozen BK191.out 0; have hfz59_1 := blk_frozen BK191.out 1; have hfz59_2 := blk_frozen BK191.out 2; have hfz59_3 := blk_frozen BK191.out 3; have hfz59_4 := blk_frozen BK191.out 4))
                                    go_roundg kj7
                                    case measure => have := HK1.out; have := HJ7.out; omega
                                    case rel => exact ⟨(y201), (x7_1), (wrap64 (x8_1 + t192)), (x9_1), (wrap64 (x10_1 + ((a0.extract (x10_1 : Int).toNat ((wrap64 (x10_1 + t192)) : Int).toNat).size : Int))), (by first | rfl | (simp; done) | (simp [*]; done)), (by first | rfl | (simp; done) | (simp [*]; done)), (by first | rfl | (simp; done) | (simp [*]; done)), (by first | rfl | (simp; done) | (simp [*]; done)), H', ⟨by have := HK1.out; have := HJ7.out; omega⟩, ⟨by (with_reducible repeat (first | apply Kd.R_alloc | apply Kd.R_drewN | apply Kd.R_drew)); exact Kd.R_mono HO203.out (fun _ hk => trivial)⟩, ⟨by repeat (first | (with_reducible first | exact HB.out | apply below_alloc | apply pw_below_drewN | apply below_drew1 | refine below_set ?_ GE191.out) | exact HB.out)⟩⟩
                                  · rw [if_neg c49] at H
                                    exact absurd H (by simp)
                              · replace c23 := Bool.eq_false_iff.mpr c23
                                subst c23
                                have H1 : (some (([] : List (S123)), x7_1, x8_1, 3)) = some (r1, r2, r3, r4) := by rw [if_neg (show ¬ (false = true) by decide)] at H; exact H
                                clear H
                                have H := H1
                                clear H1
                                simp only [Option.some.injEq, Prod.mk.injEq] at H
                                obtain ⟨rfl, rfl, rfl, rfl⟩ := H
                                go_wp2_with (first | ((with_reducible refine gate_dst (N := 13) rfl ?_); refine box_event ?hg (N := 13) ?hd (cs := #[.int .i64 0, .string (⟨#[]⟩ : ByteArray), .int .i64 0, .int .i64 0, .int .i64 0]) (t := 123) ?hr ?_; (case hd => rfl); (case hg => rfl); (case hr => first | (go_simp; done) | (go_simp; rfl)); intro gb191 hg w60 hbox hb; have n0_ := Aside0.mk (Kd.R_below (Kd.R_elderB (by (with_reducible repeat (first | apply Kd.R_alloc | apply Kd.R_drewN | apply Kd.R_drew)); exact HO_6.out) gb191 (Nat.le_of_eq hg.symm)) hb); have n1_ := Aside0.mk (below_step (by repeat (first | (with_reducible first | exact HB.out | apply below_alloc | apply pw_below_drewN | apply below_drew1) | exact HB.out)) hb); have n2_ := Aside0.mk (hbox); have n3_ := Aside0.mk ((by rw [hg]; exact (below_size (by repeat (first | (with_reducible first | exact HB.out | apply below_alloc | apply pw_below_drewN | apply below_drew1) | exact HB.out))) : w.heap.size ≤ gb191)); have n4_ := Aside0.mk ((by rw [hg]; exact (below_size (by repeat (first | (with_reducible first | exact HB.out | apply below_alloc | apply pw_below_drewN | apply below_drew1) | exact HB.out))) : w.heap.size ≤ gb191)); clear HO_6; clear HB; have HO_6 := n0_; have HB := n1_; have BK191 := n2_; have GW191 := n3_; have GE191 := n4_; clear n0_ n1_ n2_ n3_ n4_; clear hb hbox hg; have hcz61_0 : w60.cell? ⟨gb191, 0, none⟩ = some (.int .i64 0) := (blk_cell BK191.out 0).trans rfl; have hcz61_1 : w60.cell? ⟨gb191, 1, none⟩ = some (.string (⟨#[]⟩ : ByteArray)) := (blk_cell BK191.out 1).trans rfl; have hcz61_2 : w60.cell? ⟨gb191, 2, none⟩ = some (.int .i64 0) := (blk_cell BK191.out 2).trans rfl; have hcz61_3 : w60.cell? ⟨gb191, 3, none⟩ = some (.int .i64 0) := (blk_cell BK191.out 3).trans rfl; have hcz61_4 : w60.cell? ⟨gb191, 4, none⟩ = some (.int .i64 0) := (blk_cell BK191.out 4).trans rfl; have hfz61_0 := blk_frozen BK191.out 0; have hfz61_1 := blk_frozen BK191.out 1; have hfz61_2 := blk_frozen BK191.out 2; have hfz61_3 := blk_frozen BK191.out 3; have hfz61_4 := blk_frozen BK191.out 4) | ((with_reducible refine gate_callee (f := 97) rfl ?_); refine goesL_ (some 78) rfl rfl Tryz.func97 (by kernel_rfl) rfl #[.string a0, .int .i64 x10_1] rfl (by (try simp only [List.map_toArray, List.map_cons, List.map_nil]); first | done | rfl | (simp only [List.length_drop, List.length_take]; rfl)) ?_; (with_reducible refine (intarsiaref01_numbers.calls kj7 a0 x10_1 t192 _ A17.out).mono ?_); rintro e w' ⟨rfl, ⟨nd, rfl⟩⟩; refine ⟨_, rfl, ?_⟩) | ((with_reducible refine gate_callee (f := 98) rfl ?_); refine goesL_ (some 89) rfl rfl Tryz.func98 (by kernel_rfl) rfl #[.string (a0.extract (x10_1 : Int).toNat ((wrap64 (x10_1 + t192)) : Int).toNat)] rfl (by (try simp only [List.map_toArray, List.map_cons, List.map_nil]); first | done | rfl | (simp only [List.length_drop, List.length_take]; rfl)) ?_; (with_reducible refine (intarsiaref01_value.calls kj7 (a0.extract (x10_1 : Int).toNat ((wrap64 (x10_1 + t192)) : Int).toNat) t193 false _ A22.out).mono ?_); rintro e w' ⟨rfl, ⟨nd, rfl⟩⟩; refine ⟨_, rfl, ?_⟩))
                                refine bodyPost_ret (results_list (rs := [.tmp 2, .tmp 3, .tmp 4, .tmp 5]) rfl (by simp) (.tmp (.tmp (.tmp (.tmp .nil))))) rfl ?_
                                exact ⟨_, by first | rfl | (simp [errW_none, errW_some] <;> rfl) | (simp [*, errW_none, errW_some] <;> rfl), by first | exact Kd.R_nil _ _ _ _ _ | exact Kd.N_nil _ _ _ _ _ | exact Kd.V_nil _ _ _ _ _ | exact Kd.Q_nil _ _ _ _ _ | exact Kd.S_nil _ _ _ _ _, by repeat (first | (with_reducible first | exact HB.out | apply below_alloc | apply pw_below_drewN | apply below_drew1 | refine below_set ?_ GE191.out) | exact HB.out)⟩
                            · rw [if_neg c21] at H
                              exact absurd H (by simp)
                          · rw [if_neg c20] at H
                            exact absurd H (by simp)
                        · rw [if_neg c18] at H
                          have c18b0 : decide (0 < t192) = false := decide_eq_false c18
                          clear c18
                          replace H := Option.bind_eq_some_iff.mp H
                          obtain ⟨t204, A620, H⟩ := H
                          replace H : (if t204 = true then ((intarsiaref01_run.f kj7 a0 x10_1 false).bind fun bt205 => (if bt205.2 > 16 then (some (([] : List (S123)), x7_1, x8_1, 3)) else (if x10_1 ≤ (wrap64 (x10_1 + bt205.1)) then (if (wrap64 (x10_1 + bt205.1)) ≤ (a0.size : Int) then (if x6_1.length < 2932031007402 then (intarsiaref01_Read.l0 kj7 a0 (x6_1 ++ [(⟨1, a0.extract (x10_1 : Int).toNat ((wrap64 (x10_1 + bt205.1)) : Int).toNat, 0, x7_1, x8_1⟩ : S123)]) x7_1 (wrap64 (x8_1 + bt205.2)) x9_1 (wrap64 (x10_1 + ((a0.extract (x10_1 : Int).toNat ((wrap64 (x10_1 + bt205.1)) : Int).toNat).size : Int)))) else (none)) else (none)) else (none)))) else ((intarsiaref01_Sign.f t185).bind fun t210 => (if t210 = true then (if x6_1.length < 2932031007402 then (intarsiaref01_Read.l0 kj7 a0 (x6_1 ++ [(⟨3, a0.extract (x10_1 : Int).toNat ((wrap64 (x10_1 + t186)) : Int).toNat, 0, x7_1, x8_1⟩ : S123)]) x7_1 (wrap64 (x8_1 + 1)) x9_1 (wrap64 (x10_1 + ((a0.extract (x10_1 : Int).toNat ((wrap64 (x10_1 + t186)) : Int).toNat).size : Int)))) else (none)) else (some (([] : List (S123)), x7_1, x8_1, 6))))) = some (r1, r2, r3, r4) := H
                          have A62 := Aside0.mk A620
                          clear A620
                          by_cases c63 : t204 = true
                          · subst c63
                            have H1 : ((intarsiaref01_run.f kj7 a0 x10_1 false).bind fun bt205 => (if bt205.2 > 16 then (some (([] : List (S123)), x7_1, x8_1, 3)) else (if x10_1 ≤ (wrap64 (x10_1 + bt205.1)) then (if (wrap64 (x10_1 + bt205.1)) ≤ (a0.size : Int) then (if x6_1.length < 2932031007402 then (intarsiaref01_Read.l0 kj7 a0 (x6_1 ++ [(⟨1, a0.extract (x10_1 : Int).toNat ((wrap64 (x10_1 + bt205.1)) : Int).toNat, 0, x7_1, x8_1⟩ : S123)]) x7_1 (wrap64 (x8_1 + bt205.2)) x9_1 (wrap64 (x10_1 + ((a0.extract (x10_1 : Int).toNat ((wrap64 (x10_1 + bt205.1)) : Int).toNat).size : Int)))) else (none)) else (none)) else (none)))) = some (r1, r2, r3, r4) := by rw [if_pos rfl] at H; exact H
                            clear H
                            have H := H1
                            clear H1
                            replace H := Option.bind_eq_some_iff.mp H
                            obtain ⟨⟨t205, t206⟩, A640, H⟩ := H
                            replace H : (if t206 > 16 then (some (([] : List (S123)), x7_1, x8_1, 3)) else (if x10_1 ≤ (wrap64 (x10_1 + t205)) then (if (wrap64 (x10_1 + t205)) ≤ (a0.size : Int) then (if x6_1.length < 2932031007402 then (intarsiaref01_Read.l0 kj7 a0 (x6_1 ++ [(⟨1, a0.extract (x10_1 : Int).toNat ((wrap64 (x10_1 + t205)) : Int).toNat, 0, x7_1, x8_1⟩ : S123)]) x7_1 (wrap64 (x8_1 + t206)) x9_1 (wrap64 (x10_1 + ((a0.extract (x10_1 : Int).toNat ((wrap64 (x10_1 + t205)) : Int).toNat).size : Int)))) else (none)) else (none)) else (none))) = some (r1, r2, r3, r4) := H
                            have A64 := Aside0.mk A640
                            clear A640
                            by_cases c65 : t206 > 16
                            · rw [if_pos c65] at H
                              have c65b0 : decide (16 < t206) = true := decide_eq_true c65
                              clear c65
                              simp only [Option.some.injEq, Prod.mk.injEq] at H
                              obtain ⟨rfl, rfl, rfl, rfl⟩ := H
                              go_wp2_with (first | ((with_reducible refine gate_dst (N := 13) rfl ?_); refine box_event ?hg (N := 13) ?hd (cs := #[.int .i64 0, .string (⟨#[]⟩ : ByteArray), .int .i64 0, .int .i64 0, .int .i64 0]) (t := 123) ?hr ?_; (case hd => rfl); (case hg => rfl); (case hr => first | (go_simp; done) | (go_simp; rfl)); intro gb191 hg w66 hbox hb; have n0_ := Aside0.mk (Kd.R_below (Kd.R_elderB (by (with_reducible repeat (first | apply Kd.R_alloc | apply Kd.R_drewN | apply Kd.R_drew)); exact HO_6.out) gb191 (Nat.le_of_eq hg.symm)) hb); have n1_ := Aside0.mk (below_step (by repeat (first | (with_reducible first | exact HB.out | apply below_alloc | apply pw_below_drewN | apply below_drew1) | exact HB.out)) hb); have n2_ := Aside0.mk (hbox); have n3_ := Aside0.mk ((by rw [hg]; exact (below_size (by repeat (first | (with_reducible first | exact HB.out | apply below_alloc | apply pw_below_drewN | apply below_drew1) | exact HB.out))) : w.heap.size ≤ gb191)); have n4_ := Aside0.mk ((by rw [hg]; exact (below_size (by repeat (first | (with_reducible first | exact HB.out | apply below_alloc | apply pw_below_drewN | apply below_drew1) | exact HB.out))) : w.heap.size ≤ gb191)); clear HO_6; clear HB; have HO_6 := n0_; have HB := n1_; have BK191 := n2_; have GW191 := n3_; have GE191 := n4_; clear n0_ n1_ n2_ n3_ n4_; clear hb hbox hg; have hcz67_0 : w66.cell? ⟨gb191, 0, none⟩ = some (.int .i64 0) := (blk_cell BK191.out 0).trans rfl; have hcz67_1 : w66.cell? ⟨gb191, 1, none⟩ = some (.string (⟨#[]⟩ : ByteArray)) := (blk_cell BK191.out 1).trans rfl; have hcz67_2 : w66.cell? ⟨gb191, 2, none⟩ = some (.int .i64 0) := (blk_cell BK191.out 2).trans rfl; have hcz67_3 : w66.cell? ⟨gb191, 3, none⟩ = some (.int .i64 0) := (blk_cell BK191.out 3).trans rfl; have hcz67_4 : w66.cell? ⟨gb191, 4, none⟩ = some (.int .i64 0) := (blk_cell BK191.out 4).trans rfl; have hfz67_0 := blk_frozen BK191.out 0; have hfz67_1 := blk_frozen BK191.out 1; have hfz67_2 := blk_frozen BK191.out 2; have hfz67_3 := blk_frozen BK191.out 3; have hfz67_4 := blk_frozen BK191.out 4) | ((with_reducible refine gate_callee (f := 97) rfl ?_); refine goesL_ (some 78) rfl rfl Tryz.func97 (by kernel_rfl) rfl #[.string a0, .int .i64 x10_1] rfl (by (try simp only [List.map_toArray, List.map_cons, List.map_nil]); first | done | rfl | (simp only [List.length_drop, List.length_take]; rfl)) ?_; (with_reducible refine (intarsiaref01_numbers.calls kj7 a0 x10_1 t192 _ A17.out).mono ?_); rintro e w' ⟨rfl, ⟨nd, rfl⟩⟩; refine ⟨_, rfl, ?_⟩) | ((with_reducible refine gate_callee (f := 99) rfl ?_); refine goesL_ (some 127) rfl rfl Tryz.func99 (by kernel_rfl) rfl #[.int .i32 t185] rfl (by (try simp only [List.map_toArray, List.map_cons, List.map_nil]); first | done | rfl | (simp only [List.length_drop, List.length_take]; rfl)) ?_; (with_reducible refine (intarsiaref01_Letter.calls t185 true _ A62.out).mono ?_); rintro e w' ⟨rfl, ⟨nd, rfl⟩⟩; refine ⟨_, rfl, ?_⟩) | ((with_reducible refine gate_callee (f := 100) rfl ?_); refine goesL_ (some 131) rfl rfl Tryz.func100 (by kernel_rfl) rfl #[.string a0, .int .i64 x10_1, .bool false] rfl (by (try simp only [List.map_toArray, List.map_cons, List.map_nil]); first | done | rfl | (simp only [List.length_drop, List.length_take]; rfl)) ?_; (with_reducible refine (intarsiaref01_run.calls kj7 a0 x10_1 false t205 t206 _ A64.out).mono ?_); rintro e w' ⟨rfl, ⟨nd, rfl⟩⟩; refine ⟨_, rfl, ?_⟩))
                              refine bodyPost_ret (results_list (rs := [.tmp 2, .tmp 3, .tmp 4, .tmp 5]) rfl (by simp) (.tmp (.tmp (.tmp (.tmp .nil))))) rfl ?_
                              exact ⟨_, by first | rfl | (simp [errW_none, errW_some] <;> rfl) | (simp [*, errW_none, errW_some] <;> rfl), by first | exact Kd.R_nil _ _ _ _ _ | exact Kd.N_nil _ _ _ _ _ | exact Kd.V_nil _ _ _ _ _ | exact Kd.Q_nil _ _ _ _ _ | exact Kd.S_nil _ _ _ _ _, by repeat (first | (with_reducible first | exact HB.out | apply below_alloc | apply pw_below_drewN | apply below_drew1 | refine below_set ?_ GE191.out) | exact HB.out)⟩
                            · rw [if_neg c65] at H
                              have c65b0 : decide (16 < t206) = false := decide_eq_false c65
                              clear c65
                              have c68b0 := eq_true (of_decide_eq_true (by first | (with_reducible assumption) | assumption) : 0 ≤ x10_1)
                              by_cases c69 : x10_1 ≤ (wrap64 (x10_1 + t205))
                              · rw [if_pos c69] at H
                                have c69b0 := eq_true c69
                                have c69b1 : decide (x10_1 ≤ (wrap64 (x10_1 + t205))) = true := decide_eq_true c69
                                by_cases c70 : (wrap64 (x10_1 + t205)) ≤ (a0.size : Int)
                                · rw [if_pos c70] at H
                                  have c70b0 := eq_true c70
                                  have c70b1 : decide ((wrap64 (x10_1 + t205)) ≤ (a0.size : Int)) = true := decide_eq_true c70
                                  by_cases c71 : x6_1.length < 2932031007402
                                  · rw [if_pos c71] at H
                                    have LMc71 := Aside0.mk c71
                                    clear c71
                                    obtain ⟨y207, hy207⟩ : ∃ y_ : List (S123), y_ = (x6_1 ++ [(⟨1, a0.extract (x10_1 : Int).toNat ((wrap64 (x10_1 + t205)) : Int).toNat, 0, x7_1, x8_1⟩ : S123)]) := ⟨_, rfl⟩
                                    replace H : (intarsiaref01_Read.l0 kj7 a0 y207 x7_1 (wrap64 (x8_1 + t206)) x9_1 (wrap64 (x10_1 + ((a0.extract (x10_1 : Int).toNat ((wrap64 (x10_1 + t205)) : Int).toNat).size : Int)))) = some (r1, r2, r3, r4) := by first | (rw [hy207]; with_reducible exact H) | (have H2_ := (Option.bind_some _ _).symm.trans H; rw [hy207]; with_reducible exact H2_) | (have H2_ := (Option.bind_some _ _).symm.trans H; with_reducible exact H2_) | with_reducible exact H | (rw [hy207]; exact H) | exact H
                                    have Ny207 := Aside0.mk hy207
                                    clear hy207
                                    have H' := Aside0.mk H
                                    clear H
                                    try go_wp2_with (first | ((with_reducible refine gate_dst (N := 13) rfl ?_); refine box_event ?hg (N := 13) ?hd (cs := #[.int .i64 0, .string (⟨#[]⟩ : ByteArray), .int .i64 0, .int .i64 0, .int .i64 0]) (t := 123) ?hr ?_; (case hd => rfl); (case hg => rfl); (case hr => first | (go_simp; done) | (go_simp; rfl)); intro gb191 hg w72 hbox hb; have n0_ := Aside0.mk (Kd.R_below (Kd.R_elderB (by (with_reducible repeat (first | apply Kd.R_alloc | apply Kd.R_drewN | apply Kd.R_drew)); exact HO_6.out) gb191 (Nat.le_of_eq hg.symm)) hb); have n1_ := Aside0.mk (below_step (by repeat (first | (with_reducible first | exact HB.out | apply below_alloc | apply pw_below_drewN | apply below_drew1) | exact HB.out)) hb); have n2_ := Aside0.mk (hbox); have n3_ := Aside0.mk ((by rw [hg]; exact (below_size (by repeat (first | (with_reducible first | exact HB.out | apply below_alloc | apply pw_below_drewN | apply below_drew1) | exact HB.out))) : w.heap.size ≤ gb191)); have n4_ := Aside0.mk ((by rw [hg]; exact (below_size (by repeat (first | (with_reducible first | exact HB.out | apply below_alloc | apply pw_below_drewN | apply below_drew1) | exact HB.out))) : w.heap.size ≤ gb191)); clear HO_6; clear HB; have HO_6 := n0_; have HB := n1_; have BK191 := n2_; have GW191 := n3_; have GE191 := n4_; clear n0_ n1_ n2_ n3_ n4_; clear hb hbox hg; have hcz73_0 : w72.cell? ⟨gb191, 0, none⟩ = some (.int .i64 0) := (blk_cell BK191.out 0).trans rfl; have hcz73_1 : w72.cell? ⟨gb191, 1, none⟩ = some (.string (⟨#[]⟩ : ByteArray)) := (blk_cell BK191.out 1).trans rfl; have hcz73_2 : w72.cell? ⟨gb191, 2, none⟩ = some (.int .i64 0) := (blk_cell BK191.out 2).trans rfl; have hcz73_3 : w72.cell? ⟨gb191, 3, none⟩ = some (.int .i64 0) := (blk_cell BK191.out 3).trans rfl; have hcz73_4 : w72.cell? ⟨gb191, 4, none⟩ = some (.int .i64 0) := (blk_cell BK191.out 4).trans rfl; have hfz73_0 := blk_frozen BK191.out 0; have hfz73_1 := blk_frozen BK191.out 1; have hfz73_2 := blk_frozen BK191.out 2; have hfz73_3 := blk_frozen BK191.out 3; have hfz73_4 := blk_frozen BK191.out 4) | ((with_reducible refine gate_callee (f := 97) rfl ?_); refine goesL_ (some 78) rfl rfl Tryz.func97 (by kernel_rfl) rfl #[.string a0, .int .i64 x10_1] rfl (by (try simp only [List.map_toArray, List.map_cons, List.map_nil]); first | done | rfl | (simp only [List.length_drop, List.length_take]; rfl)) ?_; (with_reducible refine (intarsiaref01_numbers.calls kj7 a0 x10_1 t192 _ A17.out).mono ?_); rintro e w' ⟨rfl, ⟨nd, rfl⟩⟩; refine ⟨_, rfl, ?_⟩) | ((with_reducible refine gate_callee (f := 99) rfl ?_); refine goesL_ (some 127) rfl rfl Tryz.func99 (by kernel_rfl) rfl #[.int .i32 t185] rfl (by (try simp only [List.map_toArray, List.map_cons, List.map_nil]); first | done | rfl | (simp only [List.length_drop, List.length_take]; rfl)) ?_; (with_reducible refine (intarsiaref01_Letter.calls t185 true _ A62.out).mono ?_); rintro e w' ⟨rfl, ⟨nd, rfl⟩⟩; refine ⟨_, rfl, ?_⟩) | ((with_reducible refine gate_callee (f := 100) rfl ?_); refine goesL_ (some 131) rfl rfl Tryz.func100 (by kernel_rfl) rfl #[.string a0, .int .i64 x10_1, .bool false] rfl (by (try simp only [List.map_toArray, List.map_cons, List.map_nil]); first | done | rfl | (simp only [List.length_drop, List.length_take]; rfl)) ?_; (with_reducible refine (intarsiaref01_run.calls kj7 a0 x10_1 false t205 t206 _ A64.out).mono ?_); rintro e w' ⟨rfl, ⟨nd, rfl⟩⟩; refine ⟨_, rfl, ?_⟩))
                                    have n0_ : Aside0 (Kd.R k123 123 (((((w72.setCell ⟨gb191, 0, none⟩ (.int .i64 3)).setCell ⟨gb191, 1, none⟩ (.string (a0.extract (x10_1 : Int).toNat ((wrap64 (x10_1 + t186)) : Int).toNat))).setCell ⟨gb191, 2, none⟩ (.int .i64 0)).setCell ⟨gb191, 3, none⟩ (.int .i64 x7_1)).setCell ⟨gb191, 4, none⟩ (.int .i64 x8_1)) w.heap.size (fun k_ => k_ ≠ gb191) u6 x6_1) := ⟨by (with_reducible repeat (first | apply Kd.R_alloc | apply Kd.R_drewN | apply Kd.R_drew)); exact Kd.R_mono (Kd.R_far (p := ⟨gb191, 4, none⟩) (Kd.R_far (p := ⟨gb191, 3, none⟩) (Kd.R_far (p := ⟨gb191, 2, none⟩) (Kd.R_far (p := ⟨gb191, 1, none⟩) (Kd.R_far (p := ⟨gb191, 0, none⟩) (Kd.R_mono HO_6.out (fun k_ hk => (⟨hk, hk.2⟩ : _ ∧ k_ ≠ gb191))) (fun _ hk => hk.2) (.int .i64 3)) (fun _ hk => hk.2) (.string (a0.extract (x10_1 : Int).toNat ((wrap64 (x10_1 + t186)) : Int).toNat))) (fun _ hk => hk.2) (.int .i64 0)) (fun _ hk => hk.2) (.int .i64 x7_1)) (fun _ hk => hk.2) (.int .i64 x8_1)) (fun _ hk => hk.1.2)⟩
                                    have n1_ : Aside0 ((((((w72.setCell ⟨gb191, 0, none⟩ (.int .i64 3)).setCell ⟨gb191, 1, none⟩ (.string (a0.extract (x10_1 : Int).toNat ((wrap64 (x10_1 + t186)) : Int).toNat))).setCell ⟨gb191, 2, none⟩ (.int .i64 0)).setCell ⟨gb191, 3, none⟩ (.int .i64 x7_1)).setCell ⟨gb191, 4, none⟩ (.int .i64 x8_1)).heap[gb191]? = some (.cells #[.int .i64 3, .string (a0.extract (x10_1 : Int).toNat ((wrap64 (x10_1 + t186)) : Int).toNat), .int .i64 0, .int .i64 x7_1, .int .i64 x8_1] 123 (0, 0))) := ⟨by (with_reducible repeat (first | refine blk_drewN ?_ _ | refine blk_drew ?_ | refine blk_alloc ?_ _)); refine blk_put (cs := #[.int .i64 3, .string (a0.extract (x10_1 : Int).toNat ((wrap64 (x10_1 + t186)) : Int).toNat), .int .i64 0, .int .i64 x7_1, .int .i64 0]) ?_ 4 _ rfl; (with_reducible repeat (first | refine blk_drewN ?_ _ | refine blk_drew ?_ | refine blk_alloc ?_ _)); refine blk_put (cs := #[.int .i64 3, .string (a0.extract (x10_1 : Int).toNat ((wrap64 (x10_1 + t186)) : Int).toNat), .int .i64 0, .int .i64 0, .int .i64 0]) ?_ 3 _ rfl; (with_reducible repeat (first | refine blk_drewN ?_ _ | refine blk_drew ?_ | refine blk_alloc ?_ _)); refine blk_put (cs := #[.int .i64 3, .string (a0.extract (x10_1 : Int).toNat ((wrap64 (x10_1 + t186)) : Int).toNat), .int .i64 0, .int .i64 0, .int .i64 0]) ?_ 2 _ rfl; (with_reducible repeat (first | refine blk_drewN ?_ _ | refine blk_drew ?_ | refine blk_alloc ?_ _)); refine blk_put (cs := #[.int .i64 3, .string (⟨#[]⟩ : ByteArray), .int .i64 0, .int .i64 0, .int .i64 0]) ?_ 1 _ rfl; (with_reducible repeat (first | refine blk_drewN ?_ _ | refine blk_drew ?_ | refine blk_alloc ?_ _)); refine blk_put (cs := #[.int .i64 0, .string (⟨#[]⟩ : ByteArray), .int .i64 0, .int .i64 0, .int .i64 0]) ?_ 0 _ rfl; (with_reducible repeat (first | refine blk_drewN ?_ _ | refine blk_drew ?_ | refine blk_alloc ?_ _)); exact BK191.out⟩
                                    have n2_ : Aside0 (Below w.heap.size w (((((w72.setCell ⟨gb191, 0, none⟩ (.int .i64 3)).setCell ⟨gb191, 1, none⟩ (.string (a0.extract (x10_1 : Int).toNat ((wrap64 (x10_1 + t186)) : Int).toNat))).setCell ⟨gb191, 2, none⟩ (.int .i64 0)).setCell ⟨gb191, 3, none⟩ (.int .i64 x7_1)).setCell ⟨gb191, 4, none⟩ (.int .i64 x8_1))) := ⟨by repeat (first | (with_reducible first | exact HB.out | apply below_alloc | apply pw_below_drewN | apply below_drew1 | refine below_set ?_ GE191.out) | exact HB.out)⟩
                                    (try clear HO_6)
                                    (try clear BK191)
                                    (try clear HB)
                                    generalize (((((w72.setCell ⟨gb191, 0, none⟩ (.int .i64 3)).setCell ⟨gb191, 1, none⟩ (.string (a0.extract (x10_1 : Int).toNat ((wrap64 (x10_1 + t186)) : Int).toNat))).setCell ⟨gb191, 2, none⟩ (.int .i64 0)).setCell ⟨gb191, 3, none⟩ (.int .i64 x7_1)).setCell ⟨gb191, 4, none⟩ (.int .i64 x8_1)) = w74 at n0_ n1_ n2_ ⊢
                                    have HO_6 := n0_
                                    have BK191 := n1_
                                    have HB := n2_
                                    clear n0_ n1_ n2_
                                    (try (rw [drewN_self w74]; generalize hq_ : World.drewN w74 _ = w74; have n0_ : Aside0 (Kd.R k123 123 w74 w.heap.size (fun k_ => k_ ≠ gb191) u6 x6_1) := ⟨by rw [← hq_]; exact (by (with_reducible repeat (first | apply Kd.R_alloc | apply Kd.R_drewN | apply Kd.R_drew)); exact HO_6.out)⟩; have n1_ : Aside0 (w74.heap[gb191]? = some (.cells #[.int .i64 3, .string (a0.extract (x10_1 : Int).toNat ((wrap64 (x10_1 + t186)) : Int).toNat), .int .i64 0, .int .i64 x7_1, .int .i64 x8_1] 123 (0, 0))) := ⟨by rw [← hq_]; exact (by (with_reducible repeat (first | refine blk_drewN ?_ _ | refine blk_drew ?_ | refine blk_alloc ?_ _)); exact BK191.out)⟩; have n2_ : Aside0 (Below w.heap.size w w74) := ⟨by rw [← hq_]; exact (by repeat (first | (with_reducible first | exact HB.out | apply below_alloc | apply pw_below_drewN | apply below_drew1 | refine below_set ?_ GE191.out) | exact HB.out))⟩; clear HO_6 BK191 HB hq_; have HO_6 := n0_; have BK191 := n1_; have HB := n2_; clear n0_ n1_ n2_))
                                    have n0_ := Aside0.mk (Kd.R_drew HO_6.out)
                                    have n1_ := Aside0.mk (blk_drew BK191.out)
                                    have n2_ := Aside0.mk (below_drew1 HB.out)
                                    clear HO_6
                                    clear BK191
                                    clear HB
                                    have HO_6 := n0_
                                    have BK191 := n1_
                                    have HB := n2_
                                    clear n0_ n1_ n2_
                                    refine start_ (n := 12) (S := fun w' => True) (ds := []) #[false, false, false, false, false, false, false, false, false, false, false, false] (by kernel_rfl) rfl rfl trivial (fun hHeld => ?_); refine with_tabW intarsiaref01_Read.tab34 intarsiaref01_Read.bits34 (fun HT_ HW_ => ?_)
                                    generalize w74.drew = w75 at HO_6 BK191 HB hHeld ⊢
                                    refine pure_ (i := 0) (N := some 138) (v := ?_) (a' := ?_) #[true, false, false, false, false, false, false, false, false, false, false, false] rfl rfl (any_of HT_.out (by kernel_rfl)) (fun _ _ _ h => h) (Or.inl ⟨by rfl, ?_⟩) ?_ ?_
                                    rotate_left
                                    · intro w'
                                      go_simp
                                      with_reducible rfl
                                    rotate_left
                                    · simp only [Act.put, List.setIfInBounds_toArray, List.set_cons_zero, List.set_cons_succ, i64_w, i32_w]
                                      rfl
                                    refine pure_ (i := 1) (N := some 139) (v := ?_) (a' := ?_) #[true, true, false, false, false, false, false, false, false, false, false, false] rfl rfl (any_of HT_.out (by kernel_rfl)) (fun _ _ _ h => h) (Or.inl ⟨by rfl, ?_⟩) ?_ ?_
                                    rotate_left
                                    · intro w'
                                      go_simp
                                      with_reducible rfl
                                    rotate_left
                                    · simp only [Act.put, List.setIfInBounds_toArray, List.set_cons_zero, List.set_cons_succ, i64_w, i32_w]
                                      rfl
                                    refine pure_ (i := 2) (N := some 140) (v := ?_) (a' := ?_) #[true, true, true, false, false, false, false, false, false, false, false, false] rfl rfl (any_of HT_.out (by kernel_rfl)) (fun _ _ _ h => h) (Or.inl ⟨by rfl, ?_⟩) ?_ ?_
                                    rotate_left
                                    · intro w'
                                      go_simp
                                      with_reducible rfl
                                    rotate_left
                                    · simp only [Act.put, List.setIfInBounds_toArray, List.set_cons_zero, List.set_cons_succ, i64_w, i32_w]
                                      rfl
                                    refine pure_ (i := 3) (N := some 141) (v := ?_) (a' := ?_) #[true, true, true, true, false, false, false, false, false, false, false, false] rfl rfl (any_of HT_.out (by kernel_rfl)) (fun _ _ _ h => h) (Or.inl ⟨by rfl, ?_⟩) ?_ ?_
                                    rotate_left
                                    · intro w'
                                      go_simp
                                      with_reducible rfl
                                    rotate_left
                                    · simp only [Act.put, List.setIfInBounds_toArray, List.set_cons_zero, List.set_cons_succ, i64_w, i32_w]
                                      rfl
                                    refine pure_ (i := 4) (N := some 142) (v := ?_) (a' := ?_) #[true, true, true, true, true, false, false, false, false, false, false, false] rfl rfl (any_of HT_.out (by kernel_rfl)) (fun _ _ _ h => h) (Or.inl ⟨by rfl, ?_⟩) ?_ ?_
                                    rotate_left
                                    · intro w'
                                      go_simp
                                      with_reducible rfl
                                    rotate_left
                                    · simp only [Act.put, List.setIfInBounds_toArray, List.set_cons_zero, List.set_cons_succ, i64_w, i32_w]
                                      rfl
                                    refine pure_ (i := 5) (N := some 143) (v := ?_) (a' := ?_) #[true, true, true, true, true, true, false, false, false, false, false, false] rfl rfl (any_of HT_.out (by kernel_rfl)) (fun _ _ _ h => h) (Or.inl ⟨by rfl, ?_⟩) ?_ ?_
                                    rotate_left
                                    · intro w'
                                      go_simp
                                      with_reducible rfl
                                    rotate_left
                                    · simp only [Act.put, List.setIfInBounds_toArray, List.set_cons_zero, List.set_cons_succ, i64_w, i32_w]
                                      rfl
                                    refine pure_ (i := 6) (N := some 144) (v := ?_) (a' := ?_) #[true, true, true, true, true, true, true, false, false, false, false, false] rfl rfl (any_of HT_.out (by kernel_rfl)) (fun _ _ _ h => h) (Or.inl ⟨by rfl, ?_⟩) ?_ ?_
                                    rotate_left
                                    · intro w'
                                      go_simp
                                      with_reducible rfl
                                    rotate_left
                                    · simp only [Act.put, List.setIfInBounds_toArray, List.set_cons_zero, List.set_cons_succ, i64_w, i32_w]
                                      rfl
                                    refine pure_ (i := 7) (N := some 145) (v := ?_) (a' := ?_) #[true, true, true, true, true, true, true, true, false, false, false, false] rfl rfl (any_of HT_.out (by kernel_rfl)) (fun _ _ _ h => h) (Or.inl ⟨by rfl, ?_⟩) ?_ ?_
                                    rotate_left
                                    · intro w'
                                      go_simp
                                      with_reducible rfl
                                    rotate_left
                                    · simp only [Act.put, List.setIfInBounds_toArray, List.set_cons_zero, List.set_cons_succ, i64_w, i32_w]
                                      rfl
                                    refine one_ (i := 8) (N := none) #[true, true, true, true, true, true, true, true, true, false, false, false] rfl rfl (one_of HT_.out (by kernel_rfl)) (by decide) (fun K hK => ?_)
                                    have hs76 : w75.cell? ⟨gb191, 0, none⟩ = some (.int .i64 3) := (blk_cell BK191.out 0).trans rfl
                                    have hfs76 := blk_frozen BK191.out 0
                                    refine skip_ (w1 := ?_) (by rfl) rfl ?_ ?_
                                    rotate_left
                                    · go_simp
                                      rfl
                                    refine hK.out _ _ trivial (fun hHeld => ?_)
                                    clear hK K
                                    refine pure_ (i := 9) (N := some 146) (v := ?_) (a' := ?_) #[true, true, true, true, true, true, true, true, true, true, false, false] rfl rfl (any_of HT_.out (by kernel_rfl)) (fun _ _ _ h => h) (Or.inl ⟨by rfl, ?_⟩) ?_ ?_
                                    rotate_left
                                    · intro w'
                                      go_simp
                                      with_reducible rfl
                                    rotate_left
                                    · simp only [Act.put, List.setIfInBounds_toArray, List.set_cons_zero, List.set_cons_succ, i64_w, i32_w]
                                      rfl
                                    refine one_ (i := 10) (N := none) #[true, true, true, true, true, true, true, true, true, true, true, false] rfl rfl (one_of HT_.out (by kernel_rfl)) (by decide) (fun K hK => ?_)
                                    have hs77 : w75.cell? ⟨gb191, 1, none⟩ = some (.string (a0.extract (x10_1 : Int).toNat ((wrap64 (x10_1 + t186)) : Int).toNat)) := (blk_cell BK191.out 1).trans rfl
                                    have hfs77 := blk_frozen BK191.out 1
                                    refine skip_ (w1 := ?_) (by rfl) rfl ?_ ?_
                                    rotate_left
                                    · go_simp
                                      rfl
                                    refine hK.out _ _ trivial (fun hHeld => ?_)
                                    clear hK K
                                    refine pure_ (i := 11) (N := some 14) (v := ?_) (a' := ?_) #[true, true, true, true, true, true, true, true, true, true, true, true] rfl rfl (any_of HT_.out (by kernel_rfl)) (fun _ _ _ h => h) (Or.inl ⟨by rfl, ?_⟩) ?_ ?_
                                    rotate_left
                                    · intro w'
                                      go_simp
                                      with_reducible rfl
                                    rotate_left
                                    · simp only [Act.put, List.setIfInBounds_toArray, List.set_cons_zero, List.set_cons_succ, i64_w, i32_w]
                                      rfl
                                    refine done_ (done_of HT_.out (by kernel_rfl)) ?_
                                    have hcz78_0 : w75.cell? ⟨gb191, 0, none⟩ = some (.int .i64 3) := (blk_cell BK191.out 0).trans rfl
                                    have hcz78_1 : w75.cell? ⟨gb191, 1, none⟩ = some (.string (a0.extract (x10_1 : Int).toNat ((wrap64 (x10_1 + t186)) : Int).toNat)) := (blk_cell BK191.out 1).trans rfl
                                    have hcz78_2 : w75.cell? ⟨gb191, 2, none⟩ = some (.int .i64 0) := (blk_cell BK191.out 2).trans rfl
                                    have hcz78_3 : w75.cell? ⟨gb191, 3, none⟩ = some (.int .i64 x7_1) := (blk_cell BK191.out 3).trans rfl
                                    have hcz78_4 : w75.cell? ⟨gb191, 4, none⟩ = some (.int .i64 x8_1) := (blk_cell BK191.out 4).trans rfl
                                    have hfz78_0 := blk_frozen BK191.out 0
                                    have hfz78_1 := blk_frozen BK191.out 1
                                    have hfz78_2 := blk_frozen BK191.out 2
                                    have hfz78_3 := blk_frozen BK191.out 3
                                    have hfz78_4 := blk_frozen BK191.out 4
                                    try go_wp2_with (first | ((with_reducible refine gate_builtin (b := .append) (xs := #[.tmp 153, .tmp 155]) rfl ?_); at_builtin; refine Kd.R_append k123 (w0 := w) w.heap.size rfl (.tmp 153) (.tmp 155) 117 123 (.agg #[(.int .i64 0), (.string ⟨#[]⟩), (.int .i64 0), (.int .i64 0), (.int .i64 0)]) 48 rfl Tryz.underlying117 info123 rfl (by decide) (by omega) u6 x6_1 (⟨1, a0.extract (x10_1 : Int).toNat ((wrap64 (x10_1 + t205)) : Int).toNat, 0, x7_1, x8_1⟩ : S123) [.int .i64 1, .string (a0.extract (x10_1 : Int).toNat ((wrap64 (x10_1 + t205)) : Int).toNat), .int .i64 0, .int .i64 x7_1, .int .i64 x8_1] (fun k_ => k_ ≠ gb191) (fun _ => False) rfl (by first | (go_simp; done) | (go_simp; rfl)) ?aP (fun _ hk => hk.elim) ?aF ?aO ?aB ?aS ?aL ?_; (case aP => exact k123_mkM _ _ _ (⟨1, a0.extract (x10_1 : Int).toNat ((wrap64 (x10_1 + t205)) : Int).toNat, 0, x7_1, x8_1⟩ : S123)); (case aB => exact (by repeat (first | (with_reducible first | exact HB.out | apply below_alloc | apply pw_below_drewN | apply below_drew1 | refine below_set ?_ GE191.out) | exact HB.out))); (case aF => exact (fun k_ hk => Kd.freshB (g := gb191) (o := .cells #[.int .i64 1, .string (a0.extract (x10_1 : Int).toNat ((wrap64 (x10_1 + t205)) : Int).toNat), .int .i64 0, .int .i64 x7_1, .int .i64 x8_1] 123 (0, 0)) (by (with_reducible repeat (first | refine blk_drewN ?_ _ | refine blk_drew ?_ | refine blk_alloc ?_ _)); refine blk_put (cs := #[.int .i64 1, .string (a0.extract (x10_1 : Int).toNat ((wrap64 (x10_1 + t186)) : Int).toNat), .int .i64 0, .int .i64 x7_1, .int .i64 x8_1]) ?_ 1 _ rfl; (with_reducible repeat (first | refine blk_drewN ?_ _ | refine blk_drew ?_ | refine blk_alloc ?_ _)); refine blk_put (cs := #[.int .i64 3, .string (a0.extract (x10_1 : Int).toNat ((wrap64 (x10_1 + t186)) : Int).toNat), .int .i64 0, .int .i64 x7_1, .int .i64 x8_1]) ?_ 0 _ rfl; (with_reducible repeat (first | refine blk_drewN ?_ _ | refine blk_drew ?_ | refine blk_alloc ?_ _)); exact BK191.out) k_ hk)); (case aO => exact (by (with_reducible repeat (first | apply Kd.R_alloc | apply Kd.R_drewN | apply Kd.R_drew)); exact Kd.R_mono (Kd.R_far (p := ⟨gb191, 1, none⟩) (Kd.R_far (p := ⟨gb191, 0, none⟩) (Kd.R_mono HO_6.out (fun k_ hk => (⟨hk, hk⟩ : _ ∧ k_ ≠ gb191))) (fun _ hk => hk.2) (.int .i64 1)) (fun _ hk => hk.2) (.string (a0.extract (x10_1 : Int).toNat ((wrap64 (x10_1 + t205)) : Int).toNat))) (fun _ hk => hk.1))); (case aS => exact (below_size (by repeat (first | (with_reducible first | exact HB.out | apply below_alloc | apply pw_below_drewN | apply below_drew1 | refine below_set ?_ GE191.out) | exact HB.out)))); (case aL => have := LMc71.out; omega); intro v208 w79 ho hb hg hat; rw [← Ny207.out] at ho; have n0_ := Aside0.mk (blk_grown (g := gb191) (o := .cells #[.int .i64 1, .string (a0.extract (x10_1 : Int).toNat ((wrap64 (x10_1 + t205)) : Int).toNat), .int .i64 0, .int .i64 x7_1, .int .i64 x8_1] 123 (0, 0)) (by (with_reducible repeat (first | refine blk_drewN ?_ _ | refine blk_drew ?_ | refine blk_alloc ?_ _)); refine blk_put (cs := #[.int .i64 1, .string (a0.extract (x10_1 : Int).toNat ((wrap64 (x10_1 + t186)) : Int).toNat), .int .i64 0, .int .i64 x7_1, .int .i64 x8_1]) ?_ 1 _ rfl; (with_reducible repeat (first | refine blk_drewN ?_ _ | refine blk_drew ?_ | refine blk_alloc ?_ _)); refine blk_put (cs := #[.int .i64 3, .string (a0.extract (x10_1 : Int).toNat ((wrap64 (x10_1 + t186)) : Int).toNat), .int .i64 0, .int .i64 x7_1, .int .i64 x8_1]) ?_ 0 _ rfl; (with_reducible repeat (first | refine blk_drewN ?_ _ | refine blk_drew ?_ | refine blk_alloc ?_ _)); exact BK191.out) hg (Kd.R_away HO_6.out (fun _ hk => hk))); have n1_ := Aside0.mk (hb); have n2_ := Aside0.mk (ho); clear BK191; clear HB; clear HO_6; have BK191 := n0_; have HB := n1_; have HO209 := n2_; clear n0_ n1_ n2_; clear ho hb hg hat; have hcz80_0 : w79.cell? ⟨gb191, 0, none⟩ = some (.int .i64 1) := (blk_cell BK191.out 0).trans rfl; have hcz80_1 : w79.cell? ⟨gb191, 1, none⟩ = some (.string (a0.extract (x10_1 : Int).toNat ((wrap64 (x10_1 + t205)) : Int).toNat)) := (blk_cell BK191.out 1).trans rfl; have hcz80_2 : w79.cell? ⟨gb191, 2, none⟩ = some (.int .i64 0) := (blk_cell BK191.out 2).trans rfl; have hcz80_3 : w79.cell? ⟨gb191, 3, none⟩ = some (.int .i64 x7_1) := (blk_cell BK191.out 3).trans rfl; have hcz80_4 : w79.cell? ⟨gb191, 4, none⟩ = some (.int .i64 x8_1) := (blk_cell BK191.out 4).trans rfl; have hfz80_0 := blk_frozen BK191.out 0; have hfz80_1 := blk_frozen BK191.out 1; have hfz80_2 := blk_frozen BK191.out 2; have hfz80_3 := blk_frozen BK191.out 3; have hfz80_4 := blk_frozen BK191.out 4))
                                    go_roundg kj7
                                    case measure => have := HK1.out; have := HJ7.out; omega
                                    case rel => exact ⟨(y207), (x7_1), (wrap64 (x8_1 + t206)), (x9_1), (wrap64 (x10_1 + ((a0.extract (x10_1 : Int).toNat ((wrap64 (x10_1 + t205)) : Int).toNat).size : Int))), (by first | rfl | (simp; done) | (simp [*]; done)), (by first | rfl | (simp; done) | (simp [*]; done)), (by first | rfl | (simp; done) | (simp [*]; done)), (by first | rfl | (simp; done) | (simp [*]; done)), H', ⟨by have := HK1.out; have := HJ7.out; omega⟩, ⟨by (with_reducible repeat (first | apply Kd.R_alloc | apply Kd.R_drewN | apply Kd.R_drew)); exact Kd.R_mono HO209.out (fun _ hk => trivial)⟩, ⟨by repeat (first | (with_reducible first | exact HB.out | apply below_alloc | apply pw_below_drewN | apply below_drew1 | refine below_set ?_ GE191.out) | exact HB.out)⟩⟩
                                  · rw [if_neg c71] at H
                                    exact absurd H (by simp)
                                · rw [if_neg c70] at H
                                  exact absurd H (by simp)
                              · rw [if_neg c69] at H
                                exact absurd H (by simp)
                          · replace c63 := Bool.eq_false_iff.mpr c63
                            subst c63
                            have H1 : ((intarsiaref01_Sign.f t185).bind fun t210 => (if t210 = true then (if x6_1.length < 2932031007402 then (intarsiaref01_Read.l0 kj7 a0 (x6_1 ++ [(⟨3, a0.extract (x10_1 : Int).toNat ((wrap64 (x10_1 + t186)) : Int).toNat, 0, x7_1, x8_1⟩ : S123)]) x7_1 (wrap64 (x8_1 + 1)) x9_1 (wrap64 (x10_1 + ((a0.extract (x10_1 : Int).toNat ((wrap64 (x10_1 + t186)) : Int).toNat).size : Int)))) else (none)) else (some (([] : List (S123)), x7_1, x8_1, 6)))) = some (r1, r2, r3, r4) := by rw [if_neg (show ¬ (false = true) by decide)] at H; exact H
                            clear H
                            have H := H1
                            clear H1
                            replace H := Option.bind_eq_some_iff.mp H
                            obtain ⟨t210, A810, H⟩ := H
                            replace H : (if t210 = true then (if x6_1.length < 2932031007402 then (intarsiaref01_Read.l0 kj7 a0 (x6_1 ++ [(⟨3, a0.extract (x10_1 : Int).toNat ((wrap64 (x10_1 + t186)) : Int).toNat, 0, x7_1, x8_1⟩ : S123)]) x7_1 (wrap64 (x8_1 + 1)) x9_1 (wrap64 (x10_1 + ((a0.extract (x10_1 : Int).toNat ((wrap64 (x10_1 + t186)) : Int).toNat).size : Int)))) else (none)) else (some (([] : List (S123)), x7_1, x8_1, 6))) = some (r1, r2, r3, r4) := H
                            have A81 := Aside0.mk A810
                            clear A810
                            by_cases c82 : t210 = true
                            · subst c82
                              have H1 : (if x6_1.length < 2932031007402 then (intarsiaref01_Read.l0 kj7 a0 (x6_1 ++ [(⟨3, a0.extract (x10_1 : Int).toNat ((wrap64 (x10_1 + t186)) : Int).toNat, 0, x7_1, x8_1⟩ : S123)]) x7_1 (wrap64 (x8_1 + 1)) x9_1 (wrap64 (x10_1 + ((a0.extract (x10_1 : Int).toNat ((wrap64 (x10_1 + t186)) : Int).toNat).size : Int)))) else (none)) = some (r1, r2, r3, r4) := by rw [if_pos rfl] at H; exact H
                              clear H
                              have H := H1
                              clear H1
                              by_cases c83 : x6_1.length < 2932031007402
                              · rw [if_pos c83] at H
                                have LMc83 := Aside0.mk c83
                                clear c83
                                obtain ⟨y211, hy211⟩ : ∃ y_ : List (S123), y_ = (x6_1 ++ [(⟨3, a0.extract (x10_1 : Int).toNat ((wrap64 (x10_1 + t186)) : Int).toNat, 0, x7_1, x8_1⟩ : S123)]) := ⟨_, rfl⟩
                                replace H : (intarsiaref01_Read.l0 kj7 a0 y211 x7_1 (wrap64 (x8_1 + 1)) x9_1 (wrap64 (x10_1 + ((a0.extract (x10_1 : Int).toNat ((wrap64 (x10_1 + t186)) : Int).toNat).size : Int)))) = some (r1, r2, r3, r4) := by first | (rw [hy211]; with_reducible exact H) | (have H2_ := (Option.bind_some _ _).symm.trans H; rw [hy211]; with_reducible exact H2_) | (have H2_ := (Option.bind_some _ _).symm.trans H; with_reducible exact H2_) | with_reducible exact H | (rw [hy211]; exact H) | exact H
                                have Ny211 := Aside0.mk hy211
                                clear hy211
                                have H' := Aside0.mk H
                                clear H
                                go_wp2_with (first | ((with_reducible refine gate_dst (N := 13) rfl ?_); refine box_event ?hg (N := 13) ?hd (cs := #[.int .i64 0, .string (⟨#[]⟩ : ByteArray), .int .i64 0, .int .i64 0, .int .i64 0]) (t := 123) ?hr ?_; (case hd => rfl); (case hg => rfl); (case hr => first | (go_simp; done) | (go_simp; rfl)); intro gb191 hg w84 hbox hb; have n0_ := Aside0.mk (Kd.R_below (Kd.R_elderB (by (with_reducible repeat (first | apply Kd.R_alloc | apply Kd.R_drewN | apply Kd.R_drew)); exact HO_6.out) gb191 (Nat.le_of_eq hg.symm)) hb); have n1_ := Aside0.mk (below_step (by repeat (first | (with_reducible first | exact HB.out | apply below_alloc | apply pw_below_drewN | apply below_drew1) | exact HB.out)) hb); have n2_ := Aside0.mk (hbox); have n3_ := Aside0.mk ((by rw [hg]; exact (below_size (by repeat (first | (with_reducible first | exact HB.out | apply below_alloc | apply pw_below_drewN | apply below_drew1) | exact HB.out))) : w.heap.size ≤ gb191)); have n4_ := Aside0.mk ((by rw [hg]; exact (below_size (by repeat (first | (with_reducible first | exact HB.out | apply below_alloc | apply pw_below_drewN | apply below_drew1) | exact HB.out))) : w.heap.size ≤ gb191)); clear HO_6; clear HB; have HO_6 := n0_; have HB := n1_; have BK191 := n2_; have GW191 := n3_; have GE191 := n4_; clear n0_ n1_ n2_ n3_ n4_; clear hb hbox hg; have hcz85_0 : w84.cell? ⟨gb191, 0, none⟩ = some (.int .i64 0) := (blk_cell BK191.out 0).trans rfl; have hcz85_1 : w84.cell? ⟨gb191, 1, none⟩ = some (.string (⟨#[]⟩ : ByteArray)) := (blk_cell BK191.out 1).trans rfl; have hcz85_2 : w84.cell? ⟨gb191, 2, none⟩ = some (.int .i64 0) := (blk_cell BK191.out 2).trans rfl; have hcz85_3 : w84.cell? ⟨gb191, 3, none⟩ = some (.int .i64 0) := (blk_cell BK191.out 3).trans rfl; have hcz85_4 : w84.cell? ⟨gb191, 4, none⟩ = some (.int .i64 0) := (blk_cell BK191.out 4).trans rfl; have hfz85_0 := blk_frozen BK191.out 0; have hfz85_1 := blk_frozen BK191.out 1; have hfz85_2 := blk_frozen BK191.out 2; have hfz85_3 := blk_frozen BK191.out 3; have hfz85_4 := blk_frozen BK191.out 4) | ((with_reducible refine gate_callee (f := 97) rfl ?_); refine goesL_ (some 78) rfl rfl Tryz.func97 (by kernel_rfl) rfl #[.string a0, .int .i64 x10_1] rfl (by (try simp only [List.map_toArray, List.map_cons, List.map_nil]); first | done | rfl | (simp only [List.length_drop, List.length_take]; rfl)) ?_; (with_reducible refine (intarsiaref01_numbers.calls kj7 a0 x10_1 t192 _ A17.out).mono ?_); rintro e w' ⟨rfl, ⟨nd, rfl⟩⟩; refine ⟨_, rfl, ?_⟩) | ((with_reducible refine gate_callee (f := 99) rfl ?_); refine goesL_ (some 127) rfl rfl Tryz.func99 (by kernel_rfl) rfl #[.int .i32 t185] rfl (by (try simp only [List.map_toArray, List.map_cons, List.map_nil]); first | done | rfl | (simp only [List.length_drop, List.length_take]; rfl)) ?_; (with_reducible refine (intarsiaref01_Letter.calls t185 false _ A62.out).mono ?_); rintro e w' ⟨rfl, ⟨nd, rfl⟩⟩; refine ⟨_, rfl, ?_⟩) | ((with_reducible refine gate_callee (f := 101) rfl ?_); refine goesL_ (some 149) rfl rfl Tryz.func101 (by kernel_rfl) rfl #[.int .i32 t185] rfl (by (try simp only [List.map_toArray, List.map_cons, List.map_nil]); first | done | rfl | (simp only [List.length_drop, List.length_take]; rfl)) ?_; (with_reducible refine (intarsiaref01_Sign.calls t185 true _ A81.out).mono ?_); rintro e w' ⟨rfl, ⟨nd, rfl⟩⟩; refine ⟨_, rfl, ?_⟩) | ((with_reducible refine gate_builtin (b := .append) (xs := #[.tmp 153, .tmp 155]) rfl ?_); at_builtin; refine Kd.R_append k123 (w0 := w) w.heap.size rfl (.tmp 153) (.tmp 155) 117 123 (.agg #[(.int .i64 0), (.string ⟨#[]⟩), (.int .i64 0), (.int .i64 0), (.int .i64 0)]) 48 rfl Tryz.underlying117 info123 rfl (by decide) (by omega) u6 x6_1 (⟨3, a0.extract (x10_1 : Int).toNat ((wrap64 (x10_1 + t186)) : Int).toNat, 0, x7_1, x8_1⟩ : S123) [.int .i64 3, .string (a0.extract (x10_1 : Int).toNat ((wrap64 (x10_1 + t186)) : Int).toNat), .int .i64 0, .int .i64 x7_1, .int .i64 x8_1] (fun k_ => k_ ≠ gb191) (fun _ => False) rfl (by first | (go_simp; done) | (go_simp; rfl)) ?aP (fun _ hk => hk.elim) ?aF ?aO ?aB ?aS ?aL ?_; (case aP => exact k123_mkM _ _ _ (⟨3, a0.extract (x10_1 : Int).toNat ((wrap64 (x10_1 + t186)) : Int).toNat, 0, x7_1, x8_1⟩ : S123)); (case aB => exact (by repeat (first | (with_reducible first | exact HB.out | apply below_alloc | apply pw_below_drewN | apply below_drew1 | refine below_set ?_ GE191.out) | exact HB.out))); (case aF => exact (fun k_ hk => Kd.freshB (g := gb191) (o := .cells #[.int .i64 3, .string (a0.extract (x10_1 : Int).toNat ((wrap64 (x10_1 + t186)) : Int).toNat), .int .i64 0, .int .i64 x7_1, .int .i64 x8_1] 123 (0, 0)) (by (with_reducible repeat (first | refine blk_drewN ?_ _ | refine blk_drew ?_ | refine blk_alloc ?_ _)); refine blk_put (cs := #[.int .i64 3, .string (a0.extract (x10_1 : Int).toNat ((wrap64 (x10_1 + t186)) : Int).toNat), .int .i64 0, .int .i64 x7_1, .int .i64 0]) ?_ 4 _ rfl; (with_reducible repeat (first | refine blk_drewN ?_ _ | refine blk_drew ?_ | refine blk_alloc ?_ _)); refine blk_put (cs := #[.int .i64 3, .string (a0.extract (x10_1 : Int).toNat ((wrap64 (x10_1 + t186)) : Int).toNat), .int .i64 0, .int .i64 0, .int .i64 0]) ?_ 3 _ rfl; (with_reducible repeat (first | refine blk_drewN ?_ _ | refine blk_drew ?_ | refine blk_alloc ?_ _)); refine blk_put (cs := #[.int .i64 3, .string (a0.extract (x10_1 : Int).toNat ((wrap64 (x10_1 + t186)) : Int).toNat), .int .i64 0, .int .i64 0, .int .i64 0]) ?_ 2 _ rfl; (with_reducible repeat (first | refine blk_drewN ?_ _ | refine blk_drew ?_ | refine blk_alloc ?_ _)); refine blk_put (cs := #[.int .i64 3, .string (⟨#[]⟩ : ByteArray), .int .i64 0, .int .i64 0, .int .i64 0]) ?_ 1 _ rfl; (with_reducible repeat (first | refine blk_drewN ?_ _ | refine blk_drew ?_ | refine blk_alloc ?_ _)); refine blk_put (cs := #[.int .i64 0, .string (⟨#[]⟩ : ByteArray), .int .i64 0, .int .i64 0, .int .i64 0]) ?_ 0 _ rfl; (with_reducible repeat (first | refine blk_drewN ?_ _ | refine blk_drew ?_ | refine blk_alloc ?_ _)); exact BK191.out) k_ hk)); (case aO => exact (by (with_reducible repeat (first | apply Kd.R_alloc | apply Kd.R_drewN | apply Kd.R_drew)); exact Kd.R_mono (Kd.R_far (p := ⟨gb191, 4, none⟩) (Kd.R_far (p := ⟨gb191, 3, none⟩) (Kd.R_far (p := ⟨gb191, 2, none⟩) (Kd.R_far (p := ⟨gb191, 1, none⟩) (Kd.R_far (p := ⟨gb191, 0, none⟩) (Kd.R_mono HO_6.out (fun k_ hk => (⟨hk, hk.2⟩ : _ ∧ k_ ≠ gb191))) (fun _ hk => hk.2) (.int .i64 3)) (fun _ hk => hk.2) (.string (a0.extract (x10_1 : Int).toNat ((wrap64 (x10_1 + t186)) : Int).toNat))) (fun _ hk => hk.2) (.int .i64 0)) (fun _ hk => hk.2) (.int .i64 x7_1)) (fun _ hk => hk.2) (.int .i64 x8_1)) (fun _ hk => hk.1.2))); (case aS => exact (below_size (by repeat (first | (with_reducible first | exact HB.out | apply below_alloc | apply pw_below_drewN | apply below_drew1 | refine below_set ?_ GE191.out) | exact HB.out)))); (case aL => have := LMc83.out; omega); intro v212 w86 ho hb hg hat; rw [← Ny211.out] at ho; have n0_ := Aside0.mk (blk_grown (g := gb191) (o := .cells #[.int .i64 3, .string (a0.extract (x10_1 : Int).toNat ((wrap64 (x10_1 + t186)) : Int).toNat), .int .i64 0, .int .i64 x7_1, .int .i64 x8_1] 123 (0, 0)) (by (with_reducible repeat (first | refine blk_drewN ?_ _ | refine blk_drew ?_ | refine blk_alloc ?_ _)); refine blk_put (cs := #[.int .i64 3, .string (a0.extract (x10_1 : Int).toNat ((wrap64 (x10_1 + t186)) : Int).toNat), .int .i64 0, .int .i64 x7_1, .int .i64 0]) ?_ 4 _ rfl; (with_reducible repeat (first | refine blk_drewN ?_ _ | refine blk_drew ?_ | refine blk_alloc ?_ _)); refine blk_put (cs := #[.int .i64 3, .string (a0.extract (x10_1 : Int).toNat ((wrap64 (x10_1 + t186)) : Int).toNat), .int .i64 0, .int .i64 0, .int .i64 0]) ?_ 3 _ rfl; (with_reducible repeat (first | refine blk_drewN ?_ _ | refine blk_drew ?_ | refine blk_alloc ?_ _)); refine blk_put (cs := #[.int .i64 3, .string (a0.extract (x10_1 : Int).toNat ((wrap64 (x10_1 + t186)) : Int).toNat), .int .i64 0, .int .i64 0, .int .i64 0]) ?_ 2 _ rfl; (with_reducible repeat (first | refine blk_drewN ?_ _ | refine blk_drew ?_ | refine blk_alloc ?_ _)); refine blk_put (cs := #[.int .i64 3, .string (⟨#[]⟩ : ByteArray), .int .i64 0, .int .i64 0, .int .i64 0]) ?_ 1 _ rfl; (with_reducible repeat (first | refine blk_drewN ?_ _ | refine blk_drew ?_ | refine blk_alloc ?_ _)); refine blk_put (cs := #[.int .i64 0, .string (⟨#[]⟩ : ByteArray), .int .i64 0, .int .i64 0, .int .i64 0]) ?_ 0 _ rfl; (with_reducible repeat (first | refine blk_drewN ?_ _ | refine blk_drew ?_ | refine blk_alloc ?_ _)); exact BK191.out) hg (Kd.R_away HO_6.out (fun _ hk => hk.2))); have n1_ := Aside0.mk (hb); have n2_ := Aside0.mk (ho); clear BK191; clear HB; clear HO_6; have BK191 := n0_; have HB := n1_; have HO213 := n2_; clear n0_ n1_ n2_; clear ho hb hg hat; have hcz87_0 : w86.cell? ⟨gb191, 0, none⟩ = some (.int .i64 3) := (blk_cell BK191.out 0).trans rfl; have hcz87_1 : w86.cell? ⟨gb191, 1, none⟩ = some (.string (a0.extract (x10_1 : Int).toNat ((wrap64 (x10_1 + t186)) : Int).toNat)) := (blk_cell BK191.out 1).trans rfl; have hcz87_2 : w86.cell? ⟨gb191, 2, none⟩ = some (.int .i64 0) := (blk_cell BK191.out 2).trans rfl; have hcz87_3 : w86.cell? ⟨gb191, 3, none⟩ = some (.int .i64 x7_1) := (blk_cell BK191.out 3).trans rfl; have hcz87_4 : w86.cell? ⟨gb191, 4, none⟩ = some (.int .i64 x8_1) := (blk_cell BK191.out 4).trans rfl; have hfz87_0 := blk_frozen BK191.out 0; have hfz87_1 := blk_frozen BK191.out 1; have hfz87_2 := blk_frozen BK191.out 2; have hfz87_3 := blk_frozen BK191.out 3; have hfz87_4 := blk_frozen BK191.out 4))
                                go_roundg kj7
                                case measure => have := HK1.out; have := HJ7.out; omega
                                case rel => exact ⟨(y211), (x7_1), (wrap64 (x8_1 + 1)), (x9_1), (wrap64 (x10_1 + ((a0.extract (x10_1 : Int).toNat ((wrap64 (x10_1 + t186)) : Int).toNat).size : Int))), (by first | rfl | (simp; done) | (simp [*]; done)), (by first | rfl | (simp; done) | (simp [*]; done)), (by first | rfl | (simp; done) | (simp [*]; done)), (by first | rfl | (simp; done) | (simp [*]; done)), H', ⟨by have := HK1.out; have := HJ7.out; omega⟩, ⟨by (with_reducible repeat (first | apply Kd.R_alloc | apply Kd.R_drewN | apply Kd.R_drew)); exact Kd.R_mono HO213.out (fun _ hk => trivial)⟩, ⟨by repeat (first | (with_reducible first | exact HB.out | apply below_alloc | apply pw_below_drewN | apply below_drew1 | refine below_set ?_ GE191.out) | exact HB.out)⟩⟩
                              · rw [if_neg c83] at H
                                exact absurd H (by simp)
                            · replace c82 := Bool.eq_false_iff.mpr c82
                              subst c82
                              have H1 : (some (([] : List (S123)), x7_1, x8_1, 6)) = some (r1, r2, r3, r4) := by rw [if_neg (show ¬ (false = true) by decide)] at H; exact H
                              clear H
                              have H := H1
                              clear H1
                              simp only [Option.some.injEq, Prod.mk.injEq] at H
                              obtain ⟨rfl, rfl, rfl, rfl⟩ := H
                              go_wp2_with (first | ((with_reducible refine gate_dst (N := 13) rfl ?_); refine box_event ?hg (N := 13) ?hd (cs := #[.int .i64 0, .string (⟨#[]⟩ : ByteArray), .int .i64 0, .int .i64 0, .int .i64 0]) (t := 123) ?hr ?_; (case hd => rfl); (case hg => rfl); (case hr => first | (go_simp; done) | (go_simp; rfl)); intro gb191 hg w88 hbox hb; have n0_ := Aside0.mk (Kd.R_below (Kd.R_elderB (by (with_reducible repeat (first | apply Kd.R_alloc | apply Kd.R_drewN | apply Kd.R_drew)); exact HO_6.out) gb191 (Nat.le_of_eq hg.symm)) hb); have n1_ := Aside0.mk (below_step (by repeat (first | (with_reducible first | exact HB.out | apply below_alloc | apply pw_below_drewN | apply below_drew1) | exact HB.out)) hb); have n2_ := Aside0.mk (hbox); have n3_ := Aside0.mk ((by rw [hg]; exact (below_size (by repeat (first | (with_reducible first | exact HB.out | apply below_alloc | apply pw_below_drewN | apply below_drew1) | exact HB.out))) : w.heap.size ≤ gb191)); have n4_ := Aside0.mk ((by rw [hg]; exact (below_size (by repeat (first | (with_reducible first | exact HB.out | apply below_alloc | apply pw_below_drewN | apply below_drew1) | exact HB.out))) : w.heap.size ≤ gb191)); clear HO_6; clear HB; have HO_6 := n0_; have HB := n1_; have BK191 := n2_; have GW191 := n3_; have GE191 := n4_; clear n0_ n1_ n2_ n3_ n4_; clear hb hbox hg; have hcz89_0 : w88.cell? ⟨gb191, 0, none⟩ = some (.int .i64 0) := (blk_cell BK191.out 0).trans rfl; have hcz89_1 : w88.cell? ⟨gb191, 1, none⟩ = some (.string (⟨#[]⟩ : ByteArray)) := (blk_cell BK191.out 1).trans rfl; have hcz89_2 : w88.cell? ⟨gb191, 2, none⟩ = some (.int .i64 0) := (blk_cell BK191.out 2).trans rfl; have hcz89_3 : w88.cell? ⟨gb191, 3, none⟩ = some (.int .i64 0) := (blk_cell BK191.out 3).trans rfl; have hcz89_4 : w88.cell? ⟨gb191, 4, none⟩ = some (.int .i64 0) := (blk_cell BK191.out 4).trans rfl; have hfz89_0 := blk_frozen BK191.out 0; have hfz89_1 := blk_frozen BK191.out 1; have hfz89_2 := blk_frozen BK191.out 2; have hfz89_3 := blk_frozen BK191.out 3; have hfz89_4 := blk_frozen BK191.out 4) | ((with_reducible refine gate_callee (f := 97) rfl ?_); refine goesL_ (some 78) rfl rfl Tryz.func97 (by kernel_rfl) rfl #[.string a0, .int .i64 x10_1] rfl (by (try simp only [List.map_toArray, List.map_cons, List.map_nil]); first | done | rfl | (simp only [List.length_drop, List.length_take]; rfl)) ?_; (with_reducible refine (intarsiaref01_numbers.calls kj7 a0 x10_1 t192 _ A17.out).mono ?_); rintro e w' ⟨rfl, ⟨nd, rfl⟩⟩; refine ⟨_, rfl, ?_⟩) | ((with_reducible refine gate_callee (f := 99) rfl ?_); refine goesL_ (some 127) rfl rfl Tryz.func99 (by kernel_rfl) rfl #[.int .i32 t185] rfl (by (try simp only [List.map_toArray, List.map_cons, List.map_nil]); first | done | rfl | (simp only [List.length_drop, List.length_take]; rfl)) ?_; (with_reducible refine (intarsiaref01_Letter.calls t185 false _ A62.out).mono ?_); rintro e w' ⟨rfl, ⟨nd, rfl⟩⟩; refine ⟨_, rfl, ?_⟩) | ((with_reducible refine gate_callee (f := 101) rfl ?_); refine goesL_ (some 149) rfl rfl Tryz.func101 (by kernel_rfl) rfl #[.int .i32 t185] rfl (by (try simp only [List.map_toArray, List.map_cons, List.map_nil]); first | done | rfl | (simp only [List.length_drop, List.length_take]; rfl)) ?_; (with_reducible refine (intarsiaref01_Sign.calls t185 false _ A81.out).mono ?_); rintro e w' ⟨rfl, ⟨nd, rfl⟩⟩; refine ⟨_, rfl, ?_⟩))
                              refine bodyPost_ret (results_list (rs := [.tmp 2, .tmp 3, .tmp 4, .tmp 5]) rfl (by simp) (.tmp (.tmp (.tmp (.tmp .nil))))) rfl ?_
                              exact ⟨_, by first | rfl | (simp [errW_none, errW_some] <;> rfl) | (simp [*, errW_none, errW_some] <;> rfl), by first | exact Kd.R_nil _ _ _ _ _ | exact Kd.N_nil _ _ _ _ _ | exact Kd.V_nil _ _ _ _ _ | exact Kd.Q_nil _ _ _ _ _ | exact Kd.S_nil _ _ _ _ _, by repeat (first | (with_reducible first | exact HB.out | apply below_alloc | apply pw_below_drewN | apply below_drew1 | refine below_set ?_ GE191.out) | exact HB.out)⟩
                      · rw [if_neg c16] at H
                        exact absurd H (by simp)
                    · rw [if_neg c15] at H
                      exact absurd H (by simp)
                  · rw [if_neg c14] at H
                    exact absurd H (by simp)
      · rw [if_neg c2] at H
        have c2b0 : decide (x10_1 < (a0.size : Int)) = false := decide_eq_false c2
        clear c2
        simp only [Option.some.injEq, Prod.mk.injEq] at H
        obtain ⟨rfl, rfl, rfl, rfl⟩ := H
        go_wp2
        refine bodyPost_ret (results_list (rs := [.tmp 2, .tmp 3, .tmp 4, .tmp 5]) rfl (by simp) (.tmp (.tmp (.tmp (.tmp .nil))))) rfl ?_
        exact ⟨_, by first | rfl | (simp [errW_none, errW_some] <;> rfl) | (simp [*, errW_none, errW_some] <;> rfl), by (with_reducible repeat (first | apply Kd.R_alloc | apply Kd.R_drewN | apply Kd.R_drew)); exact HO_6.out, by repeat (first | (with_reducible first | exact HB.out | apply below_alloc | apply pw_below_drewN | apply below_drew1) | exact HB.out)⟩

end Go.Proofs.YtfpjdgobannneaaGreatDoor.Ref
