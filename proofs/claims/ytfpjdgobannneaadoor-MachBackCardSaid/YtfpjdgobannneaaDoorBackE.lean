
/-
  mach.row: its contract.
-/
import Derived.Test.YtfpjdgobannneaaDoorTokB
import Derived.Test.YtfpjdgobannneaaDoorMachL
import Derived.Test.YtfpjdgobannneaaDoorShelf
import Derived.BigQuiet
import Derived.Test.YtfpjdgobannneaaDoorCards
import Derived.Test.YtfpjdgobannneaaDoorTie
import Derived.Test.YtfpjdgobannneaaDoorLaid
import Derived.Test.YtfpjdgobannneaaDoorOpenM
namespace Go.Proofs.YtfpjdgobannneaaDoor
open Go Go.RowKit
set_option linter.unusedSimpArgs false

/-- one number more -/
def addNum (s : ByteArray) (n : Int) : ByteArray := s ++ (⟨#[32]⟩ ++ ⟨(Lib.decDigits n.toNat).toArray⟩)

/-- a word, and numbers -/
def rowT (word : ByteArray) (l : List Int) : ByteArray := l.foldl addNum word

theorem rowT_step (word : ByteArray) {l : List Int} {k : Nat} (h : k < l.length) : rowT word (l.take (k + 1)) = addNum (rowT word (l.take k)) l[k] := by
  unfold rowT
  rw [List.take_succ_eq_append_getElem h, List.foldl_append]
  rfl

theorem digits_len (n : Nat) (h : n ≤ 64) : (Lib.decDigits n).length ≤ 21 := by
  have := Lib.itoa_length_le (n : Int) (by omega) (by omega)
  have e : Lib.itoa (n : Int) = Lib.decDigits n := by
    unfold Lib.itoa
    rw [if_neg (by omega), Int.toNat_natCast]
  rw [e] at this
  exact this

theorem addNum_size (s : ByteArray) (n : Int) (h : 0 ≤ n ∧ n ≤ 64) : (addNum s n).size ≤ s.size + 22 := by
  have := digits_len n.toNat (by omega)
  unfold addNum
  rw [ByteArray.size_append, ByteArray.size_append]
  show s.size + (1 + (Lib.decDigits n.toNat).toArray.size) ≤ _
  rw [List.size_toArray]
  omega

theorem rowT_size : ∀ (l : List Int) (word : ByteArray), (∀ n ∈ l, 0 ≤ n ∧ n ≤ 64) → (rowT word l).size ≤ word.size + 22 * l.length
  | [], word, _ => by simp [rowT]
  | n :: r, word, h => by
    have h1 := addNum_size word n (h n (by simp))
    have h2 := rowT_size r (addNum word n) (fun x hx => h x (by simp [hx]))
    show (rowT (addNum word n) r).size ≤ _
    rw [List.length_cons]
    omega

section
set_option maxRecDepth 100000
set_option maxHeartbeats 4000000

theorem row_calls (word : ByteArray) (l : List Int) (hn : ∀ n ∈ l, 0 ≤ n ∧ n ≤ 64) (A : Option Addr) (c : Nat) (w : World) (hA : IntsAt w A l) (hl : l.length ≤ 1000000000) (hw : word.size ≤ 1000000000) :
    Calls Tryd.prog 18 #[.string word, .slice A l.length c] w fun e w' => e = .returned (.string (rowT word l)) ∧ w = w' := by
  have H := Lib.hid hA
  have Hn := Lib.hid hn
  have Hsz := Lib.hid (fun k => rowT_size (l.take k) word (fun n hm => hn n (List.mem_of_mem_take hm)))
  have Hw := Lib.hid hw
  clear hA hn hw
  go_enter Tryd.func18, Tryd.ntmps18
  go_wp2
  go_loopw [0, 9] (fun v0 v9 wr => ∃ k : Nat, k ≤ l.length ∧ v9 = .int .i64 k ∧ v0 = .string (rowT word (l.take k)) ∧ wr = w) (fun _ v9 _ => l.length - (intOf v9).toNat)
  case atStart => exact ⟨0, Nat.zero_le _, rfl, rfl, rfl⟩
  case round =>
    obtain ⟨k, hk, rfl, rfl, rfl⟩ := hrel
    by_cases hlt : k < l.length
    · obtain ⟨g, off, rfl, hg, hc⟩ := H.out (List.length_pos_iff.1 (by omega))
      have hx := hc k l[k] (List.getElem?_eq_getElem hlt)
      have HT := Lib.hid (rowT_step word hlt)
      have hin := Hn.out l[k] (List.getElem_mem hlt)
      have hz1 : (rowT word (l.take k)).size ≤ 100000000000 := by
        have h1 := Hsz.out k
        have h2 := Hw.out
        rw [List.length_take] at h1
        omega
      clear hc
      generalize l[k] = x at *
      obtain ⟨n, rfl⟩ : ∃ n : Nat, x = n := ⟨x.toNat, by omega⟩
      have hz2 := digits_len n (by omega)
      have hz3 : ¬ 9223372036854775807 < 1 + (Lib.decDigits n).length := by omega
      have hz4 : ¬ 9223372036854775807 < (rowT word (l.take k)).size + (1 + (Lib.decDigits n).length) := by omega
      clear hz1 hz2
      go_wp2_with (first | (go_at_call 29; refine (Tryd.strconv_Itoa_small n (by omega) _).mono ?_; rintro e w2 ⟨rfl, rfl⟩))
      go_roundw
      case rel => exact ⟨k + 1, by omega, by go_num, by rw [HT.out]; rfl, by trivial⟩
      case measure => simp [intOf]; omega
    · have hkn : k = l.length := by omega
      subst hkn
      go_wp2
      go_ret
      rw [List.take_length]
      exact ⟨rfl, rfl⟩

end
end Go.Proofs.YtfpjdgobannneaaDoor

/-
  mach.Print: its contract. (The region that draws its order is printed by a small program, gen/genPR.py.)
-/
namespace Go.Proofs.YtfpjdgobannneaaDoor
open Go Go.RowKit Go.Proofs.YtfpjdgobannneaaDoorW.PrintLast Go.Proofs.YtfpjdgobannneaaDoorW.PrintWords
set_option linter.unusedSimpArgs false

theorem addNum_list (s : ByteArray) {n : Int} (h : 0 ≤ n) : (addNum s n).data.toList = s.data.toList ++ 32 :: Lib.itoa n := by
  have e : Lib.itoa n = Lib.decDigits n.toNat := by
    unfold Lib.itoa
    rw [if_neg (by omega)]
  unfold addNum
  rw [ByteArray.data_append, ByteArray.data_append, Array.toList_append, Array.toList_append, e]
  rfl

theorem rowT_list : ∀ (l : List Int) (word : ByteArray), (∀ n ∈ l, 0 ≤ n ∧ n ≤ 64) → (rowT word l).data.toList = word.data.toList ++ toksBytes (l.map Tok.num)
  | [], word, _ => by simp [rowT, toksBytes]
  | n :: r, word, h => by
    show (rowT (addNum word n) r).data.toList = _
    rw [rowT_list r (addNum word n) (fun x hx => h x (by simp [hx])), addNum_list word (h n (by simp)).1, List.append_assoc]
    rfl

theorem toks_append (a b : List Tok) : toksBytes (a ++ b) = toksBytes a ++ toksBytes b := List.flatMap_append

/-- the four rows, and blanks between them -/
def rows4 (m : Mch) : List ByteArray := [rowT MM [m.regs], rowT MA m.args, rowT MR [m.ret], rowT MS m.saved]

def joined (m : Mch) : ByteArray := ⟨(Lib.join ((rows4 m).map (·.data.toList)) (⟨#[32]⟩ : ByteArray).data.toList).toArray⟩

theorem joined_list {m : Mch} (h : RightM m) : (joined m).data.toList = MM.data.toList ++ toksBytes m.toks := by
  obtain ⟨h1, h2, h3, h4⟩ := right_bounds h
  have r1 := rowT_list [m.regs] MM (fun n hn => by rw [List.mem_singleton.1 hn]; exact h1)
  have r2 := rowT_list m.args MA h2
  have r3 := rowT_list [m.ret] MR (fun n hn => by rw [List.mem_singleton.1 hn]; exact h3)
  have r4 := rowT_list m.saved MS h4
  have e : (joined m).data.toList = (rowT MM [m.regs]).data.toList ++ 32 :: ((rowT MA m.args).data.toList ++ 32 :: ((rowT MR [m.ret]).data.toList ++ 32 :: (rowT MS m.saved).data.toList)) := by
    show (Lib.join ((rows4 m).map (·.data.toList)) (⟨#[32]⟩ : ByteArray).data.toList).toArray.toList = _
    rw [List.toList_toArray]
    simp [rows4, Lib.join]
  rw [e, r1, r2, r3, r4]
  unfold Mch.toks
  have c1 : ∀ (t : Tok) (r : List Tok), toksBytes (t :: r) = 32 :: (t.bytes ++ toksBytes r) := fun t r => rfl
  simp only [c1, toks_append, List.map_cons, List.map_nil, List.append_assoc, List.cons_append]
  simp [toksBytes, Tok.bytes]

theorem joined_text {m : Mch} (h : RightM m) : joined m ++ ⟨#[10]⟩ = m.text := by
  have e : (joined m ++ ⟨#[10]⟩ : ByteArray).data.toList = MM.data.toList ++ toksBytes m.toks ++ [10] := by
    rw [ByteArray.data_append, Array.toList_append, joined_list h]
  have e2 : m.text.data.toList = MM.data.toList ++ toksBytes m.toks ++ [10] := List.toList_toArray
  rw [← e2] at e
  have key : ∀ a b : ByteArray, a.data.toList = b.data.toList → a = b := by
    rintro ⟨a⟩ ⟨b⟩ h
    congr 1
    exact Array.toList_inj.1 h
  exact key _ _ e

theorem joined_size {m : Mch} (h : RightM m) : (joined m).size ≤ 2000 := by
  have h1 := text_size h
  rw [← joined_text h, ByteArray.size_append] at h1
  omega

theorem intsAt_one (w : World) (t : TypeId) (a : Int) : IntsAt (w.alloc (.cells #[.int .i64 a] t)) (some ⟨w.heap.size, 0, none⟩) [a] := by
  intro _
  refine ⟨w.heap.size, 0, rfl, by simp, fun j x hj => ?_⟩
  rw [Nat.zero_add, blk_cell (blk_new w _) j]
  match j, hj with
  | 0, hj => simp at hj; subst hj; rfl

theorem strs_at (w : World) (t : TypeId) (a b c d : ByteArray) (j : Nat) (x : ByteArray) (h : [a, b, c, d][j]? = some x) : (w.alloc (.cells #[.string a, .string b, .string c, .string d] t)).cell? ⟨w.heap.size, 0 + j, none⟩ = some (.string x) := by
  rw [Nat.zero_add, blk_cell (blk_new w _) j]
  match j, h with
  | 0, hj => simp at hj; subst hj; rfl
  | 1, hj => simp at hj; subst hj; rfl
  | 2, hj => simp at hj; subst hj; rfl
  | 3, hj => simp at hj; subst hj; rfl

theorem join4_calls (m : Mch) (hj : (joined m).size ≤ 2000) (g : Nat) (w : World) (hc : ∀ (j : Nat) (x : ByteArray), (rows4 m)[j]? = some x → w.cell? ⟨g, 0 + j, none⟩ = some (.string x)) (hg : g < w.heap.size) :
    Calls Tryd.prog 17 #[.slice (some ⟨g, 0, none⟩) 4 4, .string ⟨#[32]⟩] w fun e w' => e = .returned (.string (joined m)) ∧ Below w.heap.size w w' := by
  have h1 : (joined m).size = (Lib.join ((rows4 m).map (·.data.toList)) (⟨#[32]⟩ : ByteArray).data.toList).length := List.size_toArray
  exact Tryd.strings_Join g 0 4 (rows4 m) ⟨#[32]⟩ w hc hg (show (4 : Nat) ≤ 140737488355328 by decide) (Nat.le_refl 4) (by omega)

/-- what Print tells -/
def PrintPost (t : ByteArray) (er : Int) (w : World) (e : Ending) (w' : World) : Prop := e = .returned (.tuple #[.string t, .int .i64 er]) ∧ Keeps (fun _ => False) w w'

section
set_option maxRecDepth 100000
set_option maxHeartbeats 4000000

theorem print_no (m : Mch) (hr : ¬ RightM m) (A : Option Addr) (ca : Nat) (S : Option Addr) (cs : Nat) (w : World) (hA : IntsAt w A m.args) (hS : IntsAt w S m.saved) (hla : m.args.length ≤ 1000000000) (hls : m.saved.length ≤ 1000000000) :
    Calls Tryd.prog 8 #[m.V A ca S cs] w (PrintPost ⟨#[]⟩ 2 w) := by
  have HM := MachAt.new ca cs hA hS
  have y0 := HM.c0
  have y1 := HM.c1
  have y2 := HM.c2
  have y3 := HM.c3
  have HK := Lib.hid ((Keeps.refl (fun _ => False) w).alloc (.cells #[.int .i64 m.regs, .slice A m.args.length ca, .int .i64 m.ret, .slice S m.saved.length cs] 24))
  have H := Lib.hid HM
  clear HM
  have Hla := Lib.hid hla
  have Hls := Lib.hid hls
  clear hla hls
  have Hr := Lib.hid (show RTold false m from ⟨fun h => (by cases h), fun h => absurd h hr⟩)
  clear hr
  simp only [Mch.V]
  go_enter Tryd.func8, Tryd.ntmps8
  go_wp2_with (first | (go_at_call 7; refine (right_says false m Hr.out A ca S cs _ H.out.args H.out.saved Hla.out Hls.out).mono ?_; rintro e w5 ⟨rfl, k5⟩; have K5 := Lib.hid (HK.out.trans k5); clear k5 y0 y1 y2 y3))
  go_ret2
  exact ⟨rfl, K5.out⟩

theorem print_yes (m : Mch) (hr : RightM m) (A : Option Addr) (ca : Nat) (S : Option Addr) (cs : Nat) (w : World) (hA : IntsAt w A m.args) (hS : IntsAt w S m.saved) (hla : m.args.length ≤ 1000000000) (hls : m.saved.length ≤ 1000000000) :
    Calls Tryd.prog 8 #[m.V A ca S cs] w (PrintPost m.text 0 w) := by
  rw [← joined_text hr]
  have hjs := joined_size hr
  have hjz : ¬ 9223372036854775807 < (joined m).size + 1 := by omega
  have hjb := right_bounds hr
  obtain ⟨regs, args, ret, saved⟩ := m
  simp only at hA hS hla hls hjb
  obtain ⟨b1, b2, b3, b4⟩ := hjb
  have B1 := Lib.hid (show ∀ n ∈ [regs], 0 ≤ n ∧ n ≤ 64 from fun n hn => by rw [List.mem_singleton.1 hn]; exact b1)
  have B2 := Lib.hid b2
  have B3 := Lib.hid (show ∀ n ∈ [ret], 0 ≤ n ∧ n ≤ 64 from fun n hn => by rw [List.mem_singleton.1 hn]; exact b3)
  have B4 := Lib.hid b4
  have Hjs := Lib.hid hjs
  clear b1 b2 b3 b4 hjs
  have HM := MachAt.new (m := ⟨regs, args, ret, saved⟩) ca cs hA hS
  have y0 := HM.c0
  have y1 := HM.c1
  have y2 := HM.c2
  have y3 := HM.c3
  simp only at y0 y1 y2 y3
  have HK := Lib.hid ((Keeps.refl (fun _ => False) w).alloc (.cells #[.int .i64 regs, .slice A args.length ca, .int .i64 ret, .slice S saved.length cs] 24))
  have H := Lib.hid HM
  clear HM
  have Hla := Lib.hid hla
  have Hls := Lib.hid hls
  clear hla hls hA hS
  have Hr := Lib.hid (show RTold true ⟨regs, args, ret, saved⟩ from ⟨fun _ => hr, fun _ => rfl⟩)
  clear hr
  simp only [Mch.V]
  go_enter Tryd.func8, Tryd.ntmps8
  go_upto_region 3 with (first | (go_at_call 7; have m5 := right_says true ⟨regs, args, ret, saved⟩ Hr.out A ca S cs _ H.out.args H.out.saved Hla.out Hls.out; simp only [Mch.V] at m5; refine m5.mono ?_; clear m5; rintro e w5 ⟨rfl, k5⟩; have z0 := k5.cell' y0 (by simp); have z1 := k5.cell' y1 (by simp); have z2 := k5.cell' y2 (by simp); have z3 := k5.cell' y3 (by simp); have K5 := Lib.hid (HK.out.trans k5); have H5 := Lib.hid (H.out.keep0 k5); clear k5 y0 y1 y2 y3 HK H))
  refine start_ (n := 19) (S := (fun w' => w'.cell? ⟨w.heap.size, 0, none⟩ = some (.int .i64 regs) ∧ w'.cell? ⟨w.heap.size, 1, none⟩ = some (.slice A args.length ca) ∧ w'.cell? ⟨w.heap.size, 2, none⟩ = some (.int .i64 ret) ∧ w'.cell? ⟨w.heap.size, 3, none⟩ = some (.slice S saved.length cs))) (ds := []) #[false, false, false, false, false, false, false, false, false, false, false, false, false, false, false, false, false, false, false] (by kernel_rfl) rfl rfl (by exact ⟨z0, z1, z2, z3⟩) (fun hHeld => ?_)
  have KU := Lib.hid K5.out.drew
  have HA := Lib.hid (H5.out.args.keep0 ((Keeps.refl _ _).drew))
  have HS := Lib.hid (H5.out.saved.keep0 ((Keeps.refl _ _).drew))
  simp only at HA HS
  clear z0 z1 z2 z3 K5 H5
  generalize w5.drew = U at *
  have HB := Lib.hid (Below.refl U.heap.size U)
  have HSS := Lib.hid (show ∀ W', Below U.heap.size U W' → (fun w' => w'.cell? ⟨w.heap.size, 0, none⟩ = some (.int .i64 regs) ∧ w'.cell? ⟨w.heap.size, 1, none⟩ = some (.slice A args.length ca) ∧ w'.cell? ⟨w.heap.size, 2, none⟩ = some (.int .i64 ret) ∧ w'.cell? ⟨w.heap.size, 3, none⟩ = some (.slice S saved.length cs)) W' from fun W' hb => ⟨(Keeps.of_below hb (fun _ => False)).cell' hHeld.1 (by simp), (Keeps.of_below hb (fun _ => False)).cell' hHeld.2.1 (by simp), (Keeps.of_below hb (fun _ => False)).cell' hHeld.2.2.1 (by simp), (Keeps.of_below hb (fun _ => False)).cell' hHeld.2.2.2 (by simp)⟩)
  refine pure_ (i := 0) (N := some 7) (v := ?_) (a' := ?_) #[true, false, false, false, false, false, false, false, false, false, false, false, false, false, false, false, false, false, false] rfl rfl (by kernel_rfl) (fun _ _ _ h => h) (Or.inl ⟨by rfl, ?_⟩) ?_ ?_
  rotate_left
  · intro w'
    go_simp
    with_reducible rfl
  rotate_left
  · simp only [Act.put, List.setIfInBounds_toArray, List.set_cons_zero, List.set_cons_succ]
    rfl
  refine take_ (i := 1) (N := some 8) (v := ?_) (a' := ?_) #[true, true, false, false, false, false, false, false, false, false, false, false, false, false, false, false, false, false, false] rfl rfl (by kernel_rfl) (fun _ _ _ h => h) (Or.inl ⟨by rfl, ?_⟩) hHeld ?_ ?_
  rotate_left
  · intro w' hSw
    obtain ⟨hs0, hs1, hs2, hs3⟩ := hSw
    go_simp
    with_reducible rfl
  rotate_left
  · simp only [Act.put, List.setIfInBounds_toArray, List.set_cons_zero, List.set_cons_succ]
    rfl
  refine pure_ (i := 4) (N := some 11) (v := ?_) (a' := ?_) #[true, true, false, false, true, false, false, false, false, false, false, false, false, false, false, false, false, false, false] rfl rfl (by kernel_rfl) (fun _ _ _ h => h) (Or.inl ⟨by rfl, ?_⟩) ?_ ?_
  rotate_left
  · intro w'
    go_simp
    with_reducible rfl
  rotate_left
  · simp only [Act.put, List.setIfInBounds_toArray, List.set_cons_zero, List.set_cons_succ]
    rfl
  refine take_ (i := 5) (N := some 12) (v := ?_) (a' := ?_) #[true, true, false, false, true, true, false, false, false, false, false, false, false, false, false, false, false, false, false] rfl rfl (by kernel_rfl) (fun _ _ _ h => h) (Or.inl ⟨by rfl, ?_⟩) hHeld ?_ ?_
  rotate_left
  · intro w' hSw
    obtain ⟨hs0, hs1, hs2, hs3⟩ := hSw
    go_simp
    with_reducible rfl
  rotate_left
  · simp only [Act.put, List.setIfInBounds_toArray, List.set_cons_zero, List.set_cons_succ]
    rfl
  refine pure_ (i := 7) (N := some 14) (v := ?_) (a' := ?_) #[true, true, false, false, true, true, false, true, false, false, false, false, false, false, false, false, false, false, false] rfl rfl (by kernel_rfl) (fun _ _ _ h => h) (Or.inl ⟨by rfl, ?_⟩) ?_ ?_
  rotate_left
  · intro w'
    go_simp
    with_reducible rfl
  rotate_left
  · simp only [Act.put, List.setIfInBounds_toArray, List.set_cons_zero, List.set_cons_succ]
    rfl
  refine take_ (i := 8) (N := some 15) (v := ?_) (a' := ?_) #[true, true, false, false, true, true, false, true, true, false, false, false, false, false, false, false, false, false, false] rfl rfl (by kernel_rfl) (fun _ _ _ h => h) (Or.inl ⟨by rfl, ?_⟩) hHeld ?_ ?_
  rotate_left
  · intro w' hSw
    obtain ⟨hs0, hs1, hs2, hs3⟩ := hSw
    go_simp
    with_reducible rfl
  rotate_left
  · simp only [Act.put, List.setIfInBounds_toArray, List.set_cons_zero, List.set_cons_succ]
    rfl
  refine pure_ (i := 11) (N := some 18) (v := ?_) (a' := ?_) #[true, true, false, false, true, true, false, true, true, false, false, true, false, false, false, false, false, false, false] rfl rfl (by kernel_rfl) (fun _ _ _ h => h) (Or.inl ⟨by rfl, ?_⟩) ?_ ?_
  rotate_left
  · intro w'
    go_simp
    with_reducible rfl
  rotate_left
  · simp only [Act.put, List.setIfInBounds_toArray, List.set_cons_zero, List.set_cons_succ]
    rfl
  refine take_ (i := 12) (N := some 19) (v := ?_) (a' := ?_) #[true, true, false, false, true, true, false, true, true, false, false, true, true, false, false, false, false, false, false] rfl rfl (by kernel_rfl) (fun _ _ _ h => h) (Or.inl ⟨by rfl, ?_⟩) hHeld ?_ ?_
  rotate_left
  · intro w' hSw
    obtain ⟨hs0, hs1, hs2, hs3⟩ := hSw
    go_simp
    with_reducible rfl
  rotate_left
  · simp only [Act.put, List.setIfInBounds_toArray, List.set_cons_zero, List.set_cons_succ]
    rfl
  refine two_ (i := 2) (j := 9) (Ni := some 9) (Nj := some 16) #[true, true, true, false, true, true, false, true, true, false, false, true, true, false, false, false, false, false, false] #[true, true, false, false, true, true, false, true, true, true, false, true, true, false, false, false, false, false, false] rfl rfl rfl rfl (by kernel_rfl) (by decide) (by decide) (fun K hK => ?_) (fun K hK => ?_)
  · refine value_ (v := .slice (some ⟨U.heap.size, 0, none⟩) 1 1) (w1 := U.alloc (.cells #[.int .i64 regs] 3)) (by rfl) rfl (by go_simp; try rfl) ?_
    have hb := HB.out.alloc HB.out.size (.cells #[.int .i64 regs] 3)
    replace HA := Lib.hid (HA.out.keep0 ((Keeps.refl _ _).alloc (.cells #[.int .i64 regs] 3)))
    replace HS := Lib.hid (HS.out.keep0 ((Keeps.refl _ _).alloc (.cells #[.int .i64 regs] 3)))
    have HL1 := Lib.hid (intsAt_one U 3 regs)
    generalize U.alloc (.cells #[.int .i64 regs] 3) = W1 at *
    refine hK.out _ _ (HSS.out _ hb) (fun hHeld => ?_)
    replace HB := Lib.hid hb
    clear hb
    clear hK K
    refine norm_ (a' := ?na2002) ?nb2002 ?nc2002
    case nb2002 =>
      simp only [Act.put, List.setIfInBounds_toArray, List.set_cons_zero, List.set_cons_succ]
      rfl
    refine two_ (i := 3) (j := 9) (Ni := some 10) (Nj := some 16) #[true, true, true, true, true, true, false, true, true, false, false, true, true, false, false, false, false, false, false] #[true, true, true, false, true, true, false, true, true, true, false, true, true, false, false, false, false, false, false] rfl rfl rfl rfl (by kernel_rfl) (by decide) (by decide) (fun K hK => ?_) (fun K hK => ?_)
    · refine goes_ (f := 18) Tryd.func18 (by kernel_rfl) rfl #[.string MM, .slice (some ⟨U.heap.size, 0, none⟩) 1 1] (by rfl) rfl rfl (by simp only [List.map_toArray, List.map_cons, List.map_nil]; rfl) ?_
      refine (row_calls MM [regs] B1.out (some ⟨U.heap.size, 0, none⟩) 1 _ HL1.out (by first | exact Hla.out | exact Hls.out | simp) (by decide)).mono ?_
      rintro e w9 ⟨rfl, rfl⟩
      have hb := HB.out
      refine ⟨_, rfl, ?_⟩
      refine hK.out _ _ (HSS.out _ hb) (fun hHeld => ?_)
      replace HB := Lib.hid hb
      clear hb
      clear hK K
      refine norm_ (a' := ?na4003) ?nb4003 ?nc4003
      case nb4003 =>
        simp only [Act.put, List.setIfInBounds_toArray, List.set_cons_zero, List.set_cons_succ]
        rfl
      refine two_ (i := 6) (j := 9) (Ni := some 13) (Nj := some 16) #[true, true, true, true, true, true, true, true, true, false, false, true, true, false, false, false, false, false, false] #[true, true, true, true, true, true, false, true, true, true, false, true, true, false, false, false, false, false, false] rfl rfl rfl rfl (by kernel_rfl) (by decide) (by decide) (fun K hK => ?_) (fun K hK => ?_)
      · refine goes_ (f := 18) Tryd.func18 (by kernel_rfl) rfl #[.string MA, .slice A args.length ca] (by rfl) rfl rfl (by simp only [List.map_toArray, List.map_cons, List.map_nil]; rfl) ?_
        refine (row_calls MA args B2.out A ca _ HA.out (by first | exact Hla.out | exact Hls.out | simp) (by decide)).mono ?_
        rintro e w9 ⟨rfl, rfl⟩
        have hb := HB.out
        refine ⟨_, rfl, ?_⟩
        refine hK.out _ _ (HSS.out _ hb) (fun hHeld => ?_)
        replace HB := Lib.hid hb
        clear hb
        clear hK K
        refine norm_ (a' := ?na6006) ?nb6006 ?nc6006
        case nb6006 =>
          simp only [Act.put, List.setIfInBounds_toArray, List.set_cons_zero, List.set_cons_succ]
          rfl
        refine one_ (i := 9) (N := some 16) #[true, true, true, true, true, true, true, true, true, true, false, true, true, false, false, false, false, false, false] rfl rfl (by kernel_rfl) (by decide) (fun K hK => ?_)
        refine value_ (v := .slice (some ⟨W1.heap.size, 0, none⟩) 1 1) (w1 := W1.alloc (.cells #[.int .i64 ret] 3)) (by rfl) rfl (by go_simp; try rfl) ?_
        have hb := HB.out.alloc HB.out.size (.cells #[.int .i64 ret] 3)
        replace HL1 := Lib.hid (HL1.out.keep0 ((Keeps.refl _ _).alloc (.cells #[.int .i64 ret] 3)))
        replace HA := Lib.hid (HA.out.keep0 ((Keeps.refl _ _).alloc (.cells #[.int .i64 ret] 3)))
        replace HS := Lib.hid (HS.out.keep0 ((Keeps.refl _ _).alloc (.cells #[.int .i64 ret] 3)))
        have HL2 := Lib.hid (intsAt_one W1 3 ret)
        generalize W1.alloc (.cells #[.int .i64 ret] 3) = W7 at *
        refine hK.out _ _ (HSS.out _ hb) (fun hHeld => ?_)
        replace HB := Lib.hid hb
        clear hb
        clear hK K
        refine norm_ (a' := ?na8009) ?nb8009 ?nc8009
        case nb8009 =>
          simp only [Act.put, List.setIfInBounds_toArray, List.set_cons_zero, List.set_cons_succ]
          rfl
        refine one_ (i := 10) (N := some 17) #[true, true, true, true, true, true, true, true, true, true, true, true, true, false, false, false, false, false, false] rfl rfl (by kernel_rfl) (by decide) (fun K hK => ?_)
        refine goes_ (f := 18) Tryd.func18 (by kernel_rfl) rfl #[.string MR, .slice (some ⟨W1.heap.size, 0, none⟩) 1 1] (by rfl) rfl rfl (by simp only [List.map_toArray, List.map_cons, List.map_nil]; rfl) ?_
        refine (row_calls MR [ret] B3.out (some ⟨W1.heap.size, 0, none⟩) 1 _ HL2.out (by first | exact Hla.out | exact Hls.out | simp) (by decide)).mono ?_
        rintro e w9 ⟨rfl, rfl⟩
        have hb := HB.out
        refine ⟨_, rfl, ?_⟩
        refine hK.out _ _ (HSS.out _ hb) (fun hHeld => ?_)
        replace HB := Lib.hid hb
        clear hb
        clear hK K
        refine norm_ (a' := ?na10010) ?nb10010 ?nc10010
        case nb10010 =>
          simp only [Act.put, List.setIfInBounds_toArray, List.set_cons_zero, List.set_cons_succ]
          rfl
        refine one_ (i := 13) (N := some 20) #[true, true, true, true, true, true, true, true, true, true, true, true, true, true, false, false, false, false, false] rfl rfl (by kernel_rfl) (by decide) (fun K hK => ?_)
        refine goes_ (f := 18) Tryd.func18 (by kernel_rfl) rfl #[.string MS, .slice S saved.length cs] (by rfl) rfl rfl (by simp only [List.map_toArray, List.map_cons, List.map_nil]; rfl) ?_
        refine (row_calls MS saved B4.out S cs _ HS.out (by first | exact Hla.out | exact Hls.out | simp) (by decide)).mono ?_
        rintro e w9 ⟨rfl, rfl⟩
        have hb := HB.out
        refine ⟨_, rfl, ?_⟩
        refine hK.out _ _ (HSS.out _ hb) (fun hHeld => ?_)
        replace HB := Lib.hid hb
        clear hb
        clear hK K
        refine norm_ (a' := ?na12013) ?nb12013 ?nc12013
        case nb12013 =>
          simp only [Act.put, List.setIfInBounds_toArray, List.set_cons_zero, List.set_cons_succ]
          rfl
        refine one_ (i := 14) (N := some 21) #[true, true, true, true, true, true, true, true, true, true, true, true, true, true, true, false, false, false, false] rfl rfl (by kernel_rfl) (by decide) (fun K hK => ?_)
        refine value_ (v := .slice (some ⟨W7.heap.size, 0, none⟩) 4 4) (w1 := W7.alloc (.cells #[.string (rowT MM [regs]), .string (rowT MA args), .string (rowT MR [ret]), .string (rowT MS saved)] 9)) (by rfl) rfl (by go_simp; try rfl) ?_
        have hb := HB.out.alloc HB.out.size (.cells #[.string (rowT MM [regs]), .string (rowT MA args), .string (rowT MR [ret]), .string (rowT MS saved)] 9)
        have HJ := Lib.hid (And.intro (strs_at W7 9 (rowT MM [regs]) (rowT MA args) (rowT MR [ret]) (rowT MS saved)) (show W7.heap.size < (W7.alloc (.cells #[.string (rowT MM [regs]), .string (rowT MA args), .string (rowT MR [ret]), .string (rowT MS saved)] 9)).heap.size from by simp))
        generalize W7.alloc (.cells #[.string (rowT MM [regs]), .string (rowT MA args), .string (rowT MR [ret]), .string (rowT MS saved)] 9) = W13 at *
        refine hK.out _ _ (HSS.out _ hb) (fun hHeld => ?_)
        replace HB := Lib.hid hb
        clear hb
        clear hK K
        refine norm_ (a' := ?na14014) ?nb14014 ?nc14014
        case nb14014 =>
          simp only [Act.put, List.setIfInBounds_toArray, List.set_cons_zero, List.set_cons_succ]
          rfl
        refine one_ (i := 15) (N := some 22) #[true, true, true, true, true, true, true, true, true, true, true, true, true, true, true, true, false, false, false] rfl rfl (by kernel_rfl) (by decide) (fun K hK => ?_)
        refine goes_ (f := 17) Tryd.func17 (by kernel_rfl) rfl #[.slice (some ⟨W7.heap.size, 0, none⟩) 4 4, .string ⟨#[32]⟩] (by rfl) rfl rfl (by simp only [List.map_toArray, List.map_cons, List.map_nil]; rfl) ?_
        refine (join4_calls ⟨regs, args, ret, saved⟩ Hjs.out (W7.heap.size) _ HJ.out.1 HJ.out.2).mono ?_
        rintro e W15 ⟨rfl, k9⟩
        have hb := HB.out.trans ((Keeps.of_below k9 (fun _ => False)).below HB.out.size (fun _ _ h => h))
        refine ⟨_, rfl, ?_⟩
        refine hK.out _ _ (HSS.out _ hb) (fun hHeld => ?_)
        replace HB := Lib.hid hb
        clear hb
        clear hK K
        refine norm_ (a' := ?na16015) ?nb16015 ?nc16015
        case nb16015 =>
          simp only [Act.put, List.setIfInBounds_toArray, List.set_cons_zero, List.set_cons_succ]
          rfl
        refine pure_ (i := 16) (N := some 23) (v := (.string (joined ⟨regs, args, ret, saved⟩ ++ ⟨#[10]⟩))) (a' := ?_) #[true, true, true, true, true, true, true, true, true, true, true, true, true, true, true, true, true, false, false] rfl rfl (by kernel_rfl) (fun _ _ _ h => h) (Or.inl ⟨by rfl, ?_⟩) ?_ ?_
        · intro w'
          go_simp
          (try rw [if_neg hjz])
          (try rfl)
        rotate_left
        · simp only [Act.put, List.setIfInBounds_toArray, List.set_cons_zero, List.set_cons_succ]
          rfl
        refine pure_ (i := 17) (N := some 2) (v := ?_) (a' := ?_) #[true, true, true, true, true, true, true, true, true, true, true, true, true, true, true, true, true, true, false] rfl rfl (by kernel_rfl) (fun _ _ _ h => h) (Or.inl ⟨by rfl, ?_⟩) ?_ ?_
        rotate_left
        · intro w'
          go_simp
          with_reducible rfl
        rotate_left
        · simp only [Act.put, List.setIfInBounds_toArray, List.set_cons_zero, List.set_cons_succ]
          rfl
        refine pure_ (i := 18) (N := some 3) (v := ?_) (a' := ?_) #[true, true, true, true, true, true, true, true, true, true, true, true, true, true, true, true, true, true, true] rfl rfl (by kernel_rfl) (fun _ _ _ h => h) (Or.inl ⟨by rfl, ?_⟩) ?_ ?_
        rotate_left
        · intro w'
          go_simp
          with_reducible rfl
        rotate_left
        · simp only [Act.put, List.setIfInBounds_toArray, List.set_cons_zero, List.set_cons_succ]
          rfl
        refine done_ (by kernel_rfl) ?_
        have KF := Lib.hid (KU.out.trans (Keeps.of_below HB.out _))
        clear hHeld HB KU
        go_wp2
        go_ret2
        exact ⟨rfl, KF.out⟩
      · refine value_ (v := .slice (some ⟨W1.heap.size, 0, none⟩) 1 1) (w1 := W1.alloc (.cells #[.int .i64 ret] 3)) (by rfl) rfl (by go_simp; try rfl) ?_
        have hb := HB.out.alloc HB.out.size (.cells #[.int .i64 ret] 3)
        replace HL1 := Lib.hid (HL1.out.keep0 ((Keeps.refl _ _).alloc (.cells #[.int .i64 ret] 3)))
        replace HA := Lib.hid (HA.out.keep0 ((Keeps.refl _ _).alloc (.cells #[.int .i64 ret] 3)))
        replace HS := Lib.hid (HS.out.keep0 ((Keeps.refl _ _).alloc (.cells #[.int .i64 ret] 3)))
        have HL2 := Lib.hid (intsAt_one W1 3 ret)
        generalize W1.alloc (.cells #[.int .i64 ret] 3) = W17 at *
        refine hK.out _ _ (HSS.out _ hb) (fun hHeld => ?_)
        replace HB := Lib.hid hb
        clear hb
        clear hK K
        refine norm_ (a' := ?na18009) ?nb18009 ?nc18009
        case nb18009 =>
          simp only [Act.put, List.setIfInBounds_toArray, List.set_cons_zero, List.set_cons_succ]
          rfl
        refine one_ (i := 6) (N := some 13) #[true, true, true, true, true, true, true, true, true, true, false, true, true, false, false, false, false, false, false] rfl rfl (by kernel_rfl) (by decide) (fun K hK => ?_)
        refine goes_ (f := 18) Tryd.func18 (by kernel_rfl) rfl #[.string MA, .slice A args.length ca] (by rfl) rfl rfl (by simp only [List.map_toArray, List.map_cons, List.map_nil]; rfl) ?_
        refine (row_calls MA args B2.out A ca _ HA.out (by first | exact Hla.out | exact Hls.out | simp) (by decide)).mono ?_
        rintro e w9 ⟨rfl, rfl⟩
        have hb := HB.out
        refine ⟨_, rfl, ?_⟩
        refine hK.out _ _ (HSS.out _ hb) (fun hHeld => ?_)
        replace HB := Lib.hid hb
        clear hb
        clear hK K
        refine norm_ (a' := ?na20006) ?nb20006 ?nc20006
        case nb20006 =>
          simp only [Act.put, List.setIfInBounds_toArray, List.set_cons_zero, List.set_cons_succ]
          rfl
        refine one_ (i := 10) (N := some 17) #[true, true, true, true, true, true, true, true, true, true, true, true, true, false, false, false, false, false, false] rfl rfl (by kernel_rfl) (by decide) (fun K hK => ?_)
        refine goes_ (f := 18) Tryd.func18 (by kernel_rfl) rfl #[.string MR, .slice (some ⟨W1.heap.size, 0, none⟩) 1 1] (by rfl) rfl rfl (by simp only [List.map_toArray, List.map_cons, List.map_nil]; rfl) ?_
        refine (row_calls MR [ret] B3.out (some ⟨W1.heap.size, 0, none⟩) 1 _ HL2.out (by first | exact Hla.out | exact Hls.out | simp) (by decide)).mono ?_
        rintro e w9 ⟨rfl, rfl⟩
        have hb := HB.out
        refine ⟨_, rfl, ?_⟩
        refine hK.out _ _ (HSS.out _ hb) (fun hHeld => ?_)
        replace HB := Lib.hid hb
        clear hb
        clear hK K
        refine norm_ (a' := ?na22010) ?nb22010 ?nc22010
        case nb22010 =>
          simp only [Act.put, List.setIfInBounds_toArray, List.set_cons_zero, List.set_cons_succ]
          rfl
        refine one_ (i := 13) (N := some 20) #[true, true, true, true, true, true, true, true, true, true, true, true, true, true, false, false, false, false, false] rfl rfl (by kernel_rfl) (by decide) (fun K hK => ?_)
        refine goes_ (f := 18) Tryd.func18 (by kernel_rfl) rfl #[.string MS, .slice S saved.length cs] (by rfl) rfl rfl (by simp only [List.map_toArray, List.map_cons, List.map_nil]; rfl) ?_
        refine (row_calls MS saved B4.out S cs _ HS.out (by first | exact Hla.out | exact Hls.out | simp) (by decide)).mono ?_
        rintro e w9 ⟨rfl, rfl⟩
        have hb := HB.out
        refine ⟨_, rfl, ?_⟩
        refine hK.out _ _ (HSS.out _ hb) (fun hHeld => ?_)
        replace HB := Lib.hid hb
        clear hb
        clear hK K
        refine norm_ (a' := ?na24013) ?nb24013 ?nc24013
        case nb24013 =>
          simp only [Act.put, List.setIfInBounds_toArray, List.set_cons_zero, List.set_cons_succ]
          rfl
        refine one_ (i := 14) (N := some 21) #[true, true, true, true, true, true, true, true, true, true, true, true, true, true, true, false, false, false, false] rfl rfl (by kernel_rfl) (by decide) (fun K hK => ?_)
        refine value_ (v := .slice (some ⟨W17.heap.size, 0, none⟩) 4 4) (w1 := W17.alloc (.cells #[.string (rowT MM [regs]), .string (rowT MA args), .string (rowT MR [ret]), .string (rowT MS saved)] 9)) (by rfl) rfl (by go_simp; try rfl) ?_
        have hb := HB.out.alloc HB.out.size (.cells #[.string (rowT MM [regs]), .string (rowT MA args), .string (rowT MR [ret]), .string (rowT MS saved)] 9)
        have HJ := Lib.hid (And.intro (strs_at W17 9 (rowT MM [regs]) (rowT MA args) (rowT MR [ret]) (rowT MS saved)) (show W17.heap.size < (W17.alloc (.cells #[.string (rowT MM [regs]), .string (rowT MA args), .string (rowT MR [ret]), .string (rowT MS saved)] 9)).heap.size from by simp))
        generalize W17.alloc (.cells #[.string (rowT MM [regs]), .string (rowT MA args), .string (rowT MR [ret]), .string (rowT MS saved)] 9) = W25 at *
        refine hK.out _ _ (HSS.out _ hb) (fun hHeld => ?_)
        replace HB := Lib.hid hb
        clear hb
        clear hK K
        refine norm_ (a' := ?na26014) ?nb26014 ?nc26014
        case nb26014 =>
          simp only [Act.put, List.setIfInBounds_toArray, List.set_cons_zero, List.set_cons_succ]
          rfl
        refine one_ (i := 15) (N := some 22) #[true, true, true, true, true, true, true, true, true, true, true, true, true, true, true, true, false, false, false] rfl rfl (by kernel_rfl) (by decide) (fun K hK => ?_)
        refine goes_ (f := 17) Tryd.func17 (by kernel_rfl) rfl #[.slice (some ⟨W17.heap.size, 0, none⟩) 4 4, .string ⟨#[32]⟩] (by rfl) rfl rfl (by simp only [List.map_toArray, List.map_cons, List.map_nil]; rfl) ?_
        refine (join4_calls ⟨regs, args, ret, saved⟩ Hjs.out (W17.heap.size) _ HJ.out.1 HJ.out.2).mono ?_
        rintro e W27 ⟨rfl, k9⟩
        have hb := HB.out.trans ((Keeps.of_below k9 (fun _ => False)).below HB.out.size (fun _ _ h => h))
        refine ⟨_, rfl, ?_⟩
        refine hK.out _ _ (HSS.out _ hb) (fun hHeld => ?_)
        replace HB := Lib.hid hb
        clear hb
        clear hK K
        refine norm_ (a' := ?na28015) ?nb28015 ?nc28015
        case nb28015 =>
          simp only [Act.put, List.setIfInBounds_toArray, List.set_cons_zero, List.set_cons_succ]
          rfl
        refine pure_ (i := 16) (N := some 23) (v := (.string (joined ⟨regs, args, ret, saved⟩ ++ ⟨#[10]⟩))) (a' := ?_) #[true, true, true, true, true, true, true, true, true, true, true, true, true, true, true, true, true, false, false] rfl rfl (by kernel_rfl) (fun _ _ _ h => h) (Or.inl ⟨by rfl, ?_⟩) ?_ ?_
        · intro w'
          go_simp
          (try rw [if_neg hjz])
          (try rfl)
        rotate_left
        · simp only [Act.put, List.setIfInBounds_toArray, List.set_cons_zero, List.set_cons_succ]
          rfl
        refine pure_ (i := 17) (N := some 2) (v := ?_) (a' := ?_) #[true, true, true, true, true, true, true, true, true, true, true, true, true, true, true, true, true, true, false] rfl rfl (by kernel_rfl) (fun _ _ _ h => h) (Or.inl ⟨by rfl, ?_⟩) ?_ ?_
        rotate_left
        · intro w'
          go_simp
          with_reducible rfl
        rotate_left
        · simp only [Act.put, List.setIfInBounds_toArray, List.set_cons_zero, List.set_cons_succ]
          rfl
        refine pure_ (i := 18) (N := some 3) (v := ?_) (a' := ?_) #[true, true, true, true, true, true, true, true, true, true, true, true, true, true, true, true, true, true, true] rfl rfl (by kernel_rfl) (fun _ _ _ h => h) (Or.inl ⟨by rfl, ?_⟩) ?_ ?_
        rotate_left
        · intro w'
          go_simp
          with_reducible rfl
        rotate_left
        · simp only [Act.put, List.setIfInBounds_toArray, List.set_cons_zero, List.set_cons_succ]
          rfl
        refine done_ (by kernel_rfl) ?_
        have KF := Lib.hid (KU.out.trans (Keeps.of_below HB.out _))
        clear hHeld HB KU
        go_wp2
        go_ret2
        exact ⟨rfl, KF.out⟩
    · refine value_ (v := .slice (some ⟨W1.heap.size, 0, none⟩) 1 1) (w1 := W1.alloc (.cells #[.int .i64 ret] 3)) (by rfl) rfl (by go_simp; try rfl) ?_
      have hb := HB.out.alloc HB.out.size (.cells #[.int .i64 ret] 3)
      replace HL1 := Lib.hid (HL1.out.keep0 ((Keeps.refl _ _).alloc (.cells #[.int .i64 ret] 3)))
      replace HA := Lib.hid (HA.out.keep0 ((Keeps.refl _ _).alloc (.cells #[.int .i64 ret] 3)))
      replace HS := Lib.hid (HS.out.keep0 ((Keeps.refl _ _).alloc (.cells #[.int .i64 ret] 3)))
      have HL2 := Lib.hid (intsAt_one W1 3 ret)
      generalize W1.alloc (.cells #[.int .i64 ret] 3) = W29 at *
      refine hK.out _ _ (HSS.out _ hb) (fun hHeld => ?_)
      replace HB := Lib.hid hb
      clear hb
      clear hK K
      refine norm_ (a' := ?na30009) ?nb30009 ?nc30009
      case nb30009 =>
        simp only [Act.put, List.setIfInBounds_toArray, List.set_cons_zero, List.set_cons_succ]
        rfl
      refine one_ (i := 3) (N := some 10) #[true, true, true, true, true, true, false, true, true, true, false, true, true, false, false, false, false, false, false] rfl rfl (by kernel_rfl) (by decide) (fun K hK => ?_)
      refine goes_ (f := 18) Tryd.func18 (by kernel_rfl) rfl #[.string MM, .slice (some ⟨U.heap.size, 0, none⟩) 1 1] (by rfl) rfl rfl (by simp only [List.map_toArray, List.map_cons, List.map_nil]; rfl) ?_
      refine (row_calls MM [regs] B1.out (some ⟨U.heap.size, 0, none⟩) 1 _ HL1.out (by first | exact Hla.out | exact Hls.out | simp) (by decide)).mono ?_
      rintro e w9 ⟨rfl, rfl⟩
      have hb := HB.out
      refine ⟨_, rfl, ?_⟩
      refine hK.out _ _ (HSS.out _ hb) (fun hHeld => ?_)
      replace HB := Lib.hid hb
      clear hb
      clear hK K
      refine norm_ (a' := ?na32003) ?nb32003 ?nc32003
      case nb32003 =>
        simp only [Act.put, List.setIfInBounds_toArray, List.set_cons_zero, List.set_cons_succ]
        rfl
      refine one_ (i := 6) (N := some 13) #[true, true, true, true, true, true, true, true, true, true, false, true, true, false, false, false, false, false, false] rfl rfl (by kernel_rfl) (by decide) (fun K hK => ?_)
      refine goes_ (f := 18) Tryd.func18 (by kernel_rfl) rfl #[.string MA, .slice A args.length ca] (by rfl) rfl rfl (by simp only [List.map_toArray, List.map_cons, List.map_nil]; rfl) ?_
      refine (row_calls MA args B2.out A ca _ HA.out (by first | exact Hla.out | exact Hls.out | simp) (by decide)).mono ?_
      rintro e w9 ⟨rfl, rfl⟩
      have hb := HB.out
      refine ⟨_, rfl, ?_⟩
      refine hK.out _ _ (HSS.out _ hb) (fun hHeld => ?_)
      replace HB := Lib.hid hb
      clear hb
      clear hK K
      refine norm_ (a' := ?na34006) ?nb34006 ?nc34006
      case nb34006 =>
        simp only [Act.put, List.setIfInBounds_toArray, List.set_cons_zero, List.set_cons_succ]
        rfl
      refine one_ (i := 10) (N := some 17) #[true, true, true, true, true, true, true, true, true, true, true, true, true, false, false, false, false, false, false] rfl rfl (by kernel_rfl) (by decide) (fun K hK => ?_)
      refine goes_ (f := 18) Tryd.func18 (by kernel_rfl) rfl #[.string MR, .slice (some ⟨W1.heap.size, 0, none⟩) 1 1] (by rfl) rfl rfl (by simp only [List.map_toArray, List.map_cons, List.map_nil]; rfl) ?_
      refine (row_calls MR [ret] B3.out (some ⟨W1.heap.size, 0, none⟩) 1 _ HL2.out (by first | exact Hla.out | exact Hls.out | simp) (by decide)).mono ?_
      rintro e w9 ⟨rfl, rfl⟩
      have hb := HB.out
      refine ⟨_, rfl, ?_⟩
      refine hK.out _ _ (HSS.out _ hb) (fun hHeld => ?_)
      replace HB := Lib.hid hb
      clear hb
      clear hK K
      refine norm_ (a' := ?na36010) ?nb36010 ?nc36010
      case nb36010 =>
        simp only [Act.put, List.setIfInBounds_toArray, List.set_cons_zero, List.set_cons_succ]
        rfl
      refine one_ (i := 13) (N := some 20) #[true, true, true, true, true, true, true, true, true, true, true, true, true, true, false, false, false, false, false] rfl rfl (by kernel_rfl) (by decide) (fun K hK => ?_)
      refine goes_ (f := 18) Tryd.func18 (by kernel_rfl) rfl #[.string MS, .slice S saved.length cs] (by rfl) rfl rfl (by simp only [List.map_toArray, List.map_cons, List.map_nil]; rfl) ?_
      refine (row_calls MS saved B4.out S cs _ HS.out (by first | exact Hla.out | exact Hls.out | simp) (by decide)).mono ?_
      rintro e w9 ⟨rfl, rfl⟩
      have hb := HB.out
      refine ⟨_, rfl, ?_⟩
      refine hK.out _ _ (HSS.out _ hb) (fun hHeld => ?_)
      replace HB := Lib.hid hb
      clear hb
      clear hK K
      refine norm_ (a' := ?na38013) ?nb38013 ?nc38013
      case nb38013 =>
        simp only [Act.put, List.setIfInBounds_toArray, List.set_cons_zero, List.set_cons_succ]
        rfl
      refine one_ (i := 14) (N := some 21) #[true, true, true, true, true, true, true, true, true, true, true, true, true, true, true, false, false, false, false] rfl rfl (by kernel_rfl) (by decide) (fun K hK => ?_)
      refine value_ (v := .slice (some ⟨W29.heap.size, 0, none⟩) 4 4) (w1 := W29.alloc (.cells #[.string (rowT MM [regs]), .string (rowT MA args), .string (rowT MR [ret]), .string (rowT MS saved)] 9)) (by rfl) rfl (by go_simp; try rfl) ?_
      have hb := HB.out.alloc HB.out.size (.cells #[.string (rowT MM [regs]), .string (rowT MA args), .string (rowT MR [ret]), .string (rowT MS saved)] 9)
      have HJ := Lib.hid (And.intro (strs_at W29 9 (rowT MM [regs]) (rowT MA args) (rowT MR [ret]) (rowT MS saved)) (show W29.heap.size < (W29.alloc (.cells #[.string (rowT MM [regs]), .string (rowT MA args), .string (rowT MR [ret]), .string (rowT MS saved)] 9)).heap.size from by simp))
      generalize W29.alloc (.cells #[.string (rowT MM [regs]), .string (rowT MA args), .string (rowT MR [ret]), .string (rowT MS saved)] 9) = W39 at *
      refine hK.out _ _ (HSS.out _ hb) (fun hHeld => ?_)
      replace HB := Lib.hid hb
      clear hb
      clear hK K
      refine norm_ (a' := ?na40014) ?nb40014 ?nc40014
      case nb40014 =>
        simp only [Act.put, List.setIfInBounds_toArray, List.set_cons_zero, List.set_cons_succ]
        rfl
      refine one_ (i := 15) (N := some 22) #[true, true, true, true, true, true, true, true, true, true, true, true, true, true, true, true, false, false, false] rfl rfl (by kernel_rfl) (by decide) (fun K hK => ?_)
      refine goes_ (f := 17) Tryd.func17 (by kernel_rfl) rfl #[.slice (some ⟨W29.heap.size, 0, none⟩) 4 4, .string ⟨#[32]⟩] (by rfl) rfl rfl (by simp only [List.map_toArray, List.map_cons, List.map_nil]; rfl) ?_
      refine (join4_calls ⟨regs, args, ret, saved⟩ Hjs.out (W29.heap.size) _ HJ.out.1 HJ.out.2).mono ?_
      rintro e W41 ⟨rfl, k9⟩
      have hb := HB.out.trans ((Keeps.of_below k9 (fun _ => False)).below HB.out.size (fun _ _ h => h))
      refine ⟨_, rfl, ?_⟩
      refine hK.out _ _ (HSS.out _ hb) (fun hHeld => ?_)
      replace HB := Lib.hid hb
      clear hb
      clear hK K
      refine norm_ (a' := ?na42015) ?nb42015 ?nc42015
      case nb42015 =>
        simp only [Act.put, List.setIfInBounds_toArray, List.set_cons_zero, List.set_cons_succ]
        rfl
      refine pure_ (i := 16) (N := some 23) (v := (.string (joined ⟨regs, args, ret, saved⟩ ++ ⟨#[10]⟩))) (a' := ?_) #[true, true, true, true, true, true, true, true, true, true, true, true, true, true, true, true, true, false, false] rfl rfl (by kernel_rfl) (fun _ _ _ h => h) (Or.inl ⟨by rfl, ?_⟩) ?_ ?_
      · intro w'
        go_simp
        (try rw [if_neg hjz])
        (try rfl)
      rotate_left
      · simp only [Act.put, List.setIfInBounds_toArray, List.set_cons_zero, List.set_cons_succ]
        rfl
      refine pure_ (i := 17) (N := some 2) (v := ?_) (a' := ?_) #[true, true, true, true, true, true, true, true, true, true, true, true, true, true, true, true, true, true, false] rfl rfl (by kernel_rfl) (fun _ _ _ h => h) (Or.inl ⟨by rfl, ?_⟩) ?_ ?_
      rotate_left
      · intro w'
        go_simp
        with_reducible rfl
      rotate_left
      · simp only [Act.put, List.setIfInBounds_toArray, List.set_cons_zero, List.set_cons_succ]
        rfl
      refine pure_ (i := 18) (N := some 3) (v := ?_) (a' := ?_) #[true, true, true, true, true, true, true, true, true, true, true, true, true, true, true, true, true, true, true] rfl rfl (by kernel_rfl) (fun _ _ _ h => h) (Or.inl ⟨by rfl, ?_⟩) ?_ ?_
      rotate_left
      · intro w'
        go_simp
        with_reducible rfl
      rotate_left
      · simp only [Act.put, List.setIfInBounds_toArray, List.set_cons_zero, List.set_cons_succ]
        rfl
      refine done_ (by kernel_rfl) ?_
      have KF := Lib.hid (KU.out.trans (Keeps.of_below HB.out _))
      clear hHeld HB KU
      go_wp2
      go_ret2
      exact ⟨rfl, KF.out⟩
  · refine value_ (v := .slice (some ⟨U.heap.size, 0, none⟩) 1 1) (w1 := U.alloc (.cells #[.int .i64 ret] 3)) (by rfl) rfl (by go_simp; try rfl) ?_
    have hb := HB.out.alloc HB.out.size (.cells #[.int .i64 ret] 3)
    replace HA := Lib.hid (HA.out.keep0 ((Keeps.refl _ _).alloc (.cells #[.int .i64 ret] 3)))
    replace HS := Lib.hid (HS.out.keep0 ((Keeps.refl _ _).alloc (.cells #[.int .i64 ret] 3)))
    have HL2 := Lib.hid (intsAt_one U 3 ret)
    generalize U.alloc (.cells #[.int .i64 ret] 3) = W43 at *
    refine hK.out _ _ (HSS.out _ hb) (fun hHeld => ?_)
    replace HB := Lib.hid hb
    clear hb
    clear hK K
    refine norm_ (a' := ?na44009) ?nb44009 ?nc44009
    case nb44009 =>
      simp only [Act.put, List.setIfInBounds_toArray, List.set_cons_zero, List.set_cons_succ]
      rfl
    refine one_ (i := 2) (N := some 9) #[true, true, true, false, true, true, false, true, true, true, false, true, true, false, false, false, false, false, false] rfl rfl (by kernel_rfl) (by decide) (fun K hK => ?_)
    refine value_ (v := .slice (some ⟨W43.heap.size, 0, none⟩) 1 1) (w1 := W43.alloc (.cells #[.int .i64 regs] 3)) (by rfl) rfl (by go_simp; try rfl) ?_
    have hb := HB.out.alloc HB.out.size (.cells #[.int .i64 regs] 3)
    replace HL2 := Lib.hid (HL2.out.keep0 ((Keeps.refl _ _).alloc (.cells #[.int .i64 regs] 3)))
    replace HA := Lib.hid (HA.out.keep0 ((Keeps.refl _ _).alloc (.cells #[.int .i64 regs] 3)))
    replace HS := Lib.hid (HS.out.keep0 ((Keeps.refl _ _).alloc (.cells #[.int .i64 regs] 3)))
    have HL1 := Lib.hid (intsAt_one W43 3 regs)
    generalize W43.alloc (.cells #[.int .i64 regs] 3) = W45 at *
    refine hK.out _ _ (HSS.out _ hb) (fun hHeld => ?_)
    replace HB := Lib.hid hb
    clear hb
    clear hK K
    refine norm_ (a' := ?na46002) ?nb46002 ?nc46002
    case nb46002 =>
      simp only [Act.put, List.setIfInBounds_toArray, List.set_cons_zero, List.set_cons_succ]
      rfl
    refine one_ (i := 3) (N := some 10) #[true, true, true, true, true, true, false, true, true, true, false, true, true, false, false, false, false, false, false] rfl rfl (by kernel_rfl) (by decide) (fun K hK => ?_)
    refine goes_ (f := 18) Tryd.func18 (by kernel_rfl) rfl #[.string MM, .slice (some ⟨W43.heap.size, 0, none⟩) 1 1] (by rfl) rfl rfl (by simp only [List.map_toArray, List.map_cons, List.map_nil]; rfl) ?_
    refine (row_calls MM [regs] B1.out (some ⟨W43.heap.size, 0, none⟩) 1 _ HL1.out (by first | exact Hla.out | exact Hls.out | simp) (by decide)).mono ?_
    rintro e w9 ⟨rfl, rfl⟩
    have hb := HB.out
    refine ⟨_, rfl, ?_⟩
    refine hK.out _ _ (HSS.out _ hb) (fun hHeld => ?_)
    replace HB := Lib.hid hb
    clear hb
    clear hK K
    refine norm_ (a' := ?na48003) ?nb48003 ?nc48003
    case nb48003 =>
      simp only [Act.put, List.setIfInBounds_toArray, List.set_cons_zero, List.set_cons_succ]
      rfl
    refine one_ (i := 6) (N := some 13) #[true, true, true, true, true, true, true, true, true, true, false, true, true, false, false, false, false, false, false] rfl rfl (by kernel_rfl) (by decide) (fun K hK => ?_)
    refine goes_ (f := 18) Tryd.func18 (by kernel_rfl) rfl #[.string MA, .slice A args.length ca] (by rfl) rfl rfl (by simp only [List.map_toArray, List.map_cons, List.map_nil]; rfl) ?_
    refine (row_calls MA args B2.out A ca _ HA.out (by first | exact Hla.out | exact Hls.out | simp) (by decide)).mono ?_
    rintro e w9 ⟨rfl, rfl⟩
    have hb := HB.out
    refine ⟨_, rfl, ?_⟩
    refine hK.out _ _ (HSS.out _ hb) (fun hHeld => ?_)
    replace HB := Lib.hid hb
    clear hb
    clear hK K
    refine norm_ (a' := ?na50006) ?nb50006 ?nc50006
    case nb50006 =>
      simp only [Act.put, List.setIfInBounds_toArray, List.set_cons_zero, List.set_cons_succ]
      rfl
    refine one_ (i := 10) (N := some 17) #[true, true, true, true, true, true, true, true, true, true, true, true, true, false, false, false, false, false, false] rfl rfl (by kernel_rfl) (by decide) (fun K hK => ?_)
    refine goes_ (f := 18) Tryd.func18 (by kernel_rfl) rfl #[.string MR, .slice (some ⟨U.heap.size, 0, none⟩) 1 1] (by rfl) rfl rfl (by simp only [List.map_toArray, List.map_cons, List.map_nil]; rfl) ?_
    refine (row_calls MR [ret] B3.out (some ⟨U.heap.size, 0, none⟩) 1 _ HL2.out (by first | exact Hla.out | exact Hls.out | simp) (by decide)).mono ?_
    rintro e w9 ⟨rfl, rfl⟩
    have hb := HB.out
    refine ⟨_, rfl, ?_⟩
    refine hK.out _ _ (HSS.out _ hb) (fun hHeld => ?_)
    replace HB := Lib.hid hb
    clear hb
    clear hK K
    refine norm_ (a' := ?na52010) ?nb52010 ?nc52010
    case nb52010 =>
      simp only [Act.put, List.setIfInBounds_toArray, List.set_cons_zero, List.set_cons_succ]
      rfl
    refine one_ (i := 13) (N := some 20) #[true, true, true, true, true, true, true, true, true, true, true, true, true, true, false, false, false, false, false] rfl rfl (by kernel_rfl) (by decide) (fun K hK => ?_)
    refine goes_ (f := 18) Tryd.func18 (by kernel_rfl) rfl #[.string MS, .slice S saved.length cs] (by rfl) rfl rfl (by simp only [List.map_toArray, List.map_cons, List.map_nil]; rfl) ?_
    refine (row_calls MS saved B4.out S cs _ HS.out (by first | exact Hla.out | exact Hls.out | simp) (by decide)).mono ?_
    rintro e w9 ⟨rfl, rfl⟩
    have hb := HB.out
    refine ⟨_, rfl, ?_⟩
    refine hK.out _ _ (HSS.out _ hb) (fun hHeld => ?_)
    replace HB := Lib.hid hb
    clear hb
    clear hK K
    refine norm_ (a' := ?na54013) ?nb54013 ?nc54013
    case nb54013 =>
      simp only [Act.put, List.setIfInBounds_toArray, List.set_cons_zero, List.set_cons_succ]
      rfl
    refine one_ (i := 14) (N := some 21) #[true, true, true, true, true, true, true, true, true, true, true, true, true, true, true, false, false, false, false] rfl rfl (by kernel_rfl) (by decide) (fun K hK => ?_)
    refine value_ (v := .slice (some ⟨W45.heap.size, 0, none⟩) 4 4) (w1 := W45.alloc (.cells #[.string (rowT MM [regs]), .string (rowT MA args), .string (rowT MR [ret]), .string (rowT MS saved)] 9)) (by rfl) rfl (by go_simp; try rfl) ?_
    have hb := HB.out.alloc HB.out.size (.cells #[.string (rowT MM [regs]), .string (rowT MA args), .string (rowT MR [ret]), .string (rowT MS saved)] 9)
    have HJ := Lib.hid (And.intro (strs_at W45 9 (rowT MM [regs]) (rowT MA args) (rowT MR [ret]) (rowT MS saved)) (show W45.heap.size < (W45.alloc (.cells #[.string (rowT MM [regs]), .string (rowT MA args), .string (rowT MR [ret]), .string (rowT MS saved)] 9)).heap.size from by simp))
    generalize W45.alloc (.cells #[.string (rowT MM [regs]), .string (rowT MA args), .string (rowT MR [ret]), .string (rowT MS saved)] 9) = W55 at *
    refine hK.out _ _ (HSS.out _ hb) (fun hHeld => ?_)
    replace HB := Lib.hid hb
    clear hb
    clear hK K
    refine norm_ (a' := ?na56014) ?nb56014 ?nc56014
    case nb56014 =>
      simp only [Act.put, List.setIfInBounds_toArray, List.set_cons_zero, List.set_cons_succ]
      rfl
    refine one_ (i := 15) (N := some 22) #[true, true, true, true, true, true, true, true, true, true, true, true, true, true, true, true, false, false, false] rfl rfl (by kernel_rfl) (by decide) (fun K hK => ?_)
    refine goes_ (f := 17) Tryd.func17 (by kernel_rfl) rfl #[.slice (some ⟨W45.heap.size, 0, none⟩) 4 4, .string ⟨#[32]⟩] (by rfl) rfl rfl (by simp only [List.map_toArray, List.map_cons, List.map_nil]; rfl) ?_
    refine (join4_calls ⟨regs, args, ret, saved⟩ Hjs.out (W45.heap.size) _ HJ.out.1 HJ.out.2).mono ?_
    rintro e W57 ⟨rfl, k9⟩
    have hb := HB.out.trans ((Keeps.of_below k9 (fun _ => False)).below HB.out.size (fun _ _ h => h))
    refine ⟨_, rfl, ?_⟩
    refine hK.out _ _ (HSS.out _ hb) (fun hHeld => ?_)
    replace HB := Lib.hid hb
    clear hb
    clear hK K
    refine norm_ (a' := ?na58015) ?nb58015 ?nc58015
    case nb58015 =>
      simp only [Act.put, List.setIfInBounds_toArray, List.set_cons_zero, List.set_cons_succ]
      rfl
    refine pure_ (i := 16) (N := some 23) (v := (.string (joined ⟨regs, args, ret, saved⟩ ++ ⟨#[10]⟩))) (a' := ?_) #[true, true, true, true, true, true, true, true, true, true, true, true, true, true, true, true, true, false, false] rfl rfl (by kernel_rfl) (fun _ _ _ h => h) (Or.inl ⟨by rfl, ?_⟩) ?_ ?_
    · intro w'
      go_simp
      (try rw [if_neg hjz])
      (try rfl)
    rotate_left
    · simp only [Act.put, List.setIfInBounds_toArray, List.set_cons_zero, List.set_cons_succ]
      rfl
    refine pure_ (i := 17) (N := some 2) (v := ?_) (a' := ?_) #[true, true, true, true, true, true, true, true, true, true, true, true, true, true, true, true, true, true, false] rfl rfl (by kernel_rfl) (fun _ _ _ h => h) (Or.inl ⟨by rfl, ?_⟩) ?_ ?_
    rotate_left
    · intro w'
      go_simp
      with_reducible rfl
    rotate_left
    · simp only [Act.put, List.setIfInBounds_toArray, List.set_cons_zero, List.set_cons_succ]
      rfl
    refine pure_ (i := 18) (N := some 3) (v := ?_) (a' := ?_) #[true, true, true, true, true, true, true, true, true, true, true, true, true, true, true, true, true, true, true] rfl rfl (by kernel_rfl) (fun _ _ _ h => h) (Or.inl ⟨by rfl, ?_⟩) ?_ ?_
    rotate_left
    · intro w'
      go_simp
      with_reducible rfl
    rotate_left
    · simp only [Act.put, List.setIfInBounds_toArray, List.set_cons_zero, List.set_cons_succ]
      rfl
    refine done_ (by kernel_rfl) ?_
    have KF := Lib.hid (KU.out.trans (Keeps.of_below HB.out _))
    clear hHeld HB KU
    go_wp2
    go_ret2
    exact ⟨rfl, KF.out⟩

end
end Go.Proofs.YtfpjdgobannneaaDoor

/-
  What Lost tells of a right machine. Plain laws.
-/
namespace Go.Proofs.YtfpjdgobannneaaDoor
open Go Go.RowKit

theorem lostTo_mem {m : Mch} {k : Nat} {x : Int} : x ∈ m.lostTo k ↔ (0 ≤ x ∧ x < k) ∧ x ∉ m.saved := by
  unfold Mch.lostTo
  rw [List.mem_filter, List.mem_map]
  simp only [decide_eq_true_eq, List.mem_range]
  constructor
  · rintro ⟨⟨i, hi, rfl⟩, h⟩
    exact ⟨by omega, h⟩
  · rintro ⟨h1, h2⟩
    exact ⟨⟨x.toNat, by omega, by omega⟩, h2⟩

theorem lostTo_sorted (m : Mch) (k : Nat) : (m.lostTo k).Pairwise (· < ·) := by
  unfold Mch.lostTo
  refine List.Pairwise.filter _ ?_
  rw [List.pairwise_map]
  refine List.Pairwise.imp (R := fun a b => a < b) (fun {a b} h => by omega) List.pairwise_lt_range

theorem countP_step {l : List Int} (hn : l.Nodup) (h0 : ∀ x ∈ l, 0 ≤ x) (k : Nat) : l.countP (fun x => decide (x < ((k + 1 : Nat) : Int))) = l.countP (fun x => decide (x < (k : Int))) + (if (k : Int) ∈ l then 1 else 0) := by
  induction l with
  | nil => simp
  | cons a t ih =>
    have hn2 := List.nodup_cons.1 hn
    have ih' := ih hn2.2 (fun x hx => h0 x (by simp [hx]))
    rw [List.countP_cons, List.countP_cons, ih']
    by_cases ha : a = (k : Int)
    · subst ha
      rw [if_neg hn2.1]
      simp
      omega
    · have e : (if (k : Int) ∈ a :: t then 1 else 0) = (if (k : Int) ∈ t then 1 else 0 : Nat) := by
        by_cases hk : (k : Int) ∈ t
        · rw [if_pos hk, if_pos (List.mem_cons_of_mem _ hk)]
        · rw [if_neg hk, if_neg (fun q => hk ((List.mem_cons.1 q).resolve_left (fun e => ha e.symm)))]
      rw [e]
      have e1 : (if decide (a < ((k + 1 : Nat) : Int)) = true then 1 else 0) = (if decide (a < (k : Int)) = true then 1 else 0 : Nat) := by
        by_cases h1 : a < (k : Int)
        · rw [if_pos (decide_eq_true h1), if_pos (decide_eq_true (by omega))]
        · rw [if_neg (by rw [decide_eq_true_eq]; omega), if_neg (by rw [decide_eq_true_eq]; omega)]
      rw [e1]
      exact Nat.add_right_comm _ _ _

theorem lostTo_count {m : Mch} (hn : m.saved.Nodup) (h0 : ∀ x ∈ m.saved, 0 ≤ x) : ∀ (k : Nat), (m.lostTo k).length + m.saved.countP (fun x => decide (x < (k : Int))) = k
  | 0 => by
    have : m.saved.countP (fun x => decide (x < ((0 : Nat) : Int))) = 0 := List.countP_eq_zero.2 (fun x hx => by have := h0 x hx; simp; omega)
    rw [this]
    simp [Mch.lostTo]
  | k + 1 => by
    have ih := lostTo_count hn h0 k
    rw [countP_step hn h0 k]
    by_cases hk : (k : Int) ∈ m.saved
    · rw [lostTo_no m k hk, if_pos hk]
      omega
    · rw [lostTo_yes m k hk, if_neg hk, List.length_append]
      simp
      omega

/-- what a call loses, of a right machine -/
structure LostOk (m : Mch) (l : List Int) : Prop where
  sum : (l.length : Int) + m.saved.length = m.regs
  notin : ∀ (i : Nat) (h : i < l.length), l[i] ∉ m.saved
  up : ∀ (i : Nat) (h : i + 1 < l.length), l[i] < l[i + 1]
  ret : m.ret ∈ l

theorem lost_ok {m : Mch} (h : RightM m) : LostOk m (m.lostTo m.regs.toNat) := by
  obtain ⟨a, b, c, d, e, f, g⟩ := h
  have hr : ((m.regs.toNat : Nat) : Int) = m.regs := by omega
  have hs : ∀ x ∈ m.saved, 0 ≤ x ∧ x < m.regs := fun x hx => g.1 x (by simp [hx])
  have hn := (List.nodup_cons.1 g.2)
  refine ⟨?_, fun i hi => (lostTo_mem.1 (List.getElem_mem hi)).2, fun i hi => ?_, ?_⟩
  · have h1 := lostTo_count hn.2 (fun x hx => (hs x hx).1) m.regs.toNat
    have h2 : m.saved.countP (fun x => decide (x < ((m.regs.toNat : Nat) : Int))) = m.saved.length := List.countP_eq_length.2 (fun x hx => by have := (hs x hx).2; simp; omega)
    rw [h2] at h1
    omega
  · exact List.pairwise_iff_getElem.1 (lostTo_sorted m m.regs.toNat) i (i + 1) (by omega) hi (by omega)
  · have := g.1 m.ret (by simp)
    exact lostTo_mem.2 ⟨by omega, hn.1⟩

/-- what Parse tells of a text: a right machine, or none -/
theorem parseM_form (s : ByteArray) : (∃ m, RightM m ∧ parseM s = (m, 0)) ∨ ∃ er, er ≠ 0 ∧ parseM s = (Mch.zero, er) := by
  unfold parseM
  split
  · exact Or.inr ⟨3, by decide, rfl⟩
  · unfold parseC
    split
    · exact Or.inr ⟨_, by assumption, rfl⟩
    · split
      · exact Or.inl ⟨_, by assumption, rfl⟩
      · exact Or.inr ⟨2, by decide, rfl⟩

/-- what Parse tells, written out -/
def PPost (regs : Int) (args : List Int) (ret : Int) (saved : List Int) (er : Int) (w : World) (e : Ending) (w' : World) : Prop :=
  ∃ A ca S cs, e = .returned (.tuple #[.agg #[.int .i64 regs, .slice A args.length ca, .int .i64 ret, .slice S saved.length cs], .int .i64 er]) ∧ IntsAt w' A args ∧ IntsAt w' S saved ∧ Keeps (fun _ => False) w w'

/-- lengths of a right machine's rows -/
theorem right_lens {m : Mch} (h : RightM m) : m.args.length ≤ 8 ∧ m.saved.length ≤ 64 := by
  obtain ⟨a, b, c, d, _⟩ := h
  omega

end Go.Proofs.YtfpjdgobannneaaDoor

/-
  MachBack: the walk. (Printed by a small program, gen/genBK.py.)
-/
namespace Go.Proofs.YtfpjdgobannneaaDoor
open Go Go.RowKit Go.Proofs.YtfpjdgobannneaaDoorW.PrintLast Go.Proofs.YtfpjdgobannneaaDoorW.PrintWords
set_option linter.unusedSimpArgs false

/-- while the law runs: a machine lies in block mb -/
structure BW (w W : World) (mb : Nat) (m : Mch) (A : Option Addr) (ca : Nat) (S : Option Addr) (cs : Nat) : Prop where
  at_ : MachAt W mb m A ca S cs
  ks : Keeps (fun _ => False) w W

theorem BW.keep {w W W' : World} {mb : Nat} {m : Mch} {A : Option Addr} {ca : Nat} {S : Option Addr} {cs : Nat} (h : BW w W mb m A ca S cs) (k : Keeps (fun _ => False) W W') : BW w W' mb m A ca S cs :=
  ⟨h.at_.keep0 k, h.ks.trans k⟩

theorem keeps_len (m : Mch) (hr : RightM m) (A : Option Addr) (ca : Nat) (S : Option Addr) (cs : Nat) (w : World) (hA : IntsAt w A m.args) (hS : IntsAt w S m.saved) (hla : m.args.length ≤ 1000000000) (hls : m.saved.length ≤ 1000000000) :
    Calls Tryd.prog 12 #[m.V A ca S cs] w fun e w' => ∃ F fc, e = .returned (.slice F m.saved.length fc) ∧ Keeps (fun _ => False) w w' :=
  (keeps_yes m hr A ca S cs w hA hS hla hls).mono fun e w' h => by
    obtain ⟨v, rfl, ho, k⟩ := h
    obtain ⟨F, fc, rfl⟩ := Kd.R_slice ho
    rw [List.length_map]
    exact ⟨F, fc, rfl, k⟩

theorem lost_len (m : Mch) (hr : RightM m) (A : Option Addr) (ca : Nat) (S : Option Addr) (cs : Nat) (w : World) (hA : IntsAt w A m.args) (hS : IntsAt w S m.saved) (hla : m.args.length ≤ 1000000000) (hls : m.saved.length ≤ 1000000000) :
    Calls Tryd.prog 11 #[m.V A ca S cs] w fun e w' => ∃ F fc, e = .returned (.slice F (m.lostTo m.regs.toNat).length fc) ∧ IntsAt w' F (m.lostTo m.regs.toNat) ∧ Keeps (fun _ => False) w w' :=
  (lost_yes m hr A ca S cs w hA hS hla hls).mono fun e w' h => by
    obtain ⟨v, rfl, ho, k⟩ := h
    obtain ⟨F, fc, rfl, hF⟩ := ho.slice
    exact ⟨F, fc, rfl, hF, k⟩

section
set_option maxRecDepth 100000
set_option maxHeartbeats 8000000

theorem back_calls (m : Mch) (s : ByteArray) (A : Option Addr) (ca : Nat) (S : Option Addr) (cs : Nat) (w : World) (hG : Glob w) (h4 : 4 ≤ w.heap.size)
    (hA : IntsAt w A m.args) (hS : IntsAt w S m.saved) (hla : m.args.length ≤ 140737488355328) (hls : m.saved.length ≤ 140737488355328) (hss : s.size ≤ 140737488355328) :
    Calls Tryd.prog 4 #[m.V A ca S cs, .string s] w fun e w' => e = .returned (.bool true) ∧ Keeps (fun _ => False) w w' := by
  obtain ⟨regs, args, ret, saved⟩ := m
  simp only at hA hS hla hls
  have k0 := (Keeps.refl (fun _ => False) w).alloc (.cells #[.int .i64 regs, .slice A args.length ca, .int .i64 ret, .slice S saved.length cs] 24)
  have hH := BW.mk (MachAt.new (m := ⟨regs, args, ret, saved⟩) ca cs hA hS) k0
  have c0 := hH.at_.c0
  have c1 := hH.at_.c1
  have c2 := hH.at_.c2
  have c3 := hH.at_.c3
  simp only at c0 c1 c2 c3
  have H := Lib.hid hH
  have Haw := Lib.hid (mawake_calls (w.alloc (.cells #[.int .i64 regs, .slice A args.length ca, .int .i64 ret, .slice S saved.length cs] 24)) (hG.keeps k0 (by simp)) (by simp; omega))
  have hpar : ∀ (t : ByteArray), t.size ≤ 1000000000 → ∀ W, Keeps (fun _ => False) w W → Calls Tryd.prog 9 #[.string t] W (ParsePost (parseM t) W) := fun t ht W k => parse_calls t W ht (hG.keeps k (by simp)) (by have := k.size; omega)
  clear k0 hG h4 hA hS hH
  simp only [Mch.V]
  have q1 : IntKind.i64.wrap ((args.length : Int) + saved.length) = args.length + saved.length := IntWalk.i64_in _ (by omega)
  have q2 : IntKind.i64.wrap ((args.length : Int) + saved.length + s.size) = args.length + saved.length + s.size := IntWalk.i64_in _ (by omega)
  by_cases hlong : (2000 : Int) < args.length + saved.length + s.size
  · have hgt : ((args.length : Int) + saved.length + s.size > 2000) = True := eq_true hlong
    clear hla hls hss hlong hpar
    go_enter Tryd.func4, Tryd.ntmps4
    go_wp2_with (first | (go_at_call 5; refine Haw.out.mono ?_; rintro e w1 ⟨rfl, k⟩; replace H := Lib.hid (H.out.keep k); clear c0 c1 c2 c3; have c0 := H.out.at_.c0; have c1 := H.out.at_.c1; have c2 := H.out.at_.c2; have c3 := H.out.at_.c3; simp only at c0 c1 c2 c3; clear k; clear Haw))
    go_ret
    exact ⟨rfl, H.out.ks⟩
  · have hgt : ((args.length : Int) + saved.length + s.size > 2000) = False := eq_false hlong
    have Hla := Lib.hid (show args.length ≤ 1000000000 from by omega)
    have Hls := Lib.hid (show saved.length ≤ 1000000000 from by omega)
    have Hps := Lib.hid (hpar s (by omega))
    have Hform := Lib.hid (parseM_form s)
    have Hpar := Lib.hid hpar
    clear hla hls hss hlong hpar
    by_cases hr : RightM ⟨regs, args, ret, saved⟩
    · have Hr := Lib.hid (show RTold true ⟨regs, args, ret, saved⟩ from ⟨fun _ => hr, fun _ => rfl⟩)
      have Hyr := Lib.hid hr
      have hlo := lost_ok hr
      have hlb := right_bounds hr
      have HM2 := Lib.hid (show ∀ W, Keeps (fun _ => False) w W → Calls Tryd.prog 9 #[.string (Mch.text ⟨regs, args, ret, saved⟩)] W (PPost regs args ret saved 0 W) from fun W k => by have h := Hpar.out (Mch.text ⟨regs, args, ret, saved⟩) (by have := text_size hr; omega) W k; rw [text_parse hr] at h; exact h)
      have Hpm := Lib.hid (fun (W : World) (hB : IntsAt W A args) (hT : IntsAt W S saved) => show Calls Tryd.prog 8 #[.agg #[.int .i64 regs, .slice A args.length ca, .int .i64 ret, .slice S saved.length cs]] W (PrintPost (Mch.text ⟨regs, args, ret, saved⟩) 0 W) from print_yes ⟨regs, args, ret, saved⟩ hr A ca S cs W hB hT Hla.out Hls.out)
      have Hlm := Lib.hid (fun (W : World) (hB : IntsAt W A args) (hT : IntsAt W S saved) => show Calls Tryd.prog 11 #[.agg #[.int .i64 regs, .slice A args.length ca, .int .i64 ret, .slice S saved.length cs]] W (fun e w' => ∃ F fc, e = .returned (.slice F (Mch.lostTo ⟨regs, args, ret, saved⟩ regs.toNat).length fc) ∧ IntsAt w' F (Mch.lostTo ⟨regs, args, ret, saved⟩ regs.toNat) ∧ Keeps (fun _ => False) W w') from lost_len ⟨regs, args, ret, saved⟩ hr A ca S cs W hB hT Hla.out Hls.out)
      have Hkm := Lib.hid (fun (W : World) (hB : IntsAt W A args) (hT : IntsAt W S saved) => show Calls Tryd.prog 12 #[.agg #[.int .i64 regs, .slice A args.length ca, .int .i64 ret, .slice S saved.length cs]] W (fun e w' => ∃ F fc, e = .returned (.slice F saved.length fc) ∧ Keeps (fun _ => False) W w') from keeps_len ⟨regs, args, ret, saved⟩ hr A ca S cs W hB hT Hla.out Hls.out)
      have Him := Lib.hid (fun (x : Int) (hx : x ∉ saved) (W : World) (hB : IntsAt W A args) (hT : IntsAt W S saved) => show Calls Tryd.prog 13 #[.agg #[.int .i64 regs, .slice A args.length ca, .int .i64 ret, .slice S saved.length cs], .int .i64 x] W (fun e w' => e = .returned (.bool false) ∧ Keeps (fun _ => False) W w') from issaved_says false ⟨regs, args, ret, saved⟩ x ⟨fun h => (by cases h), fun h => absurd h hx⟩ A ca S cs W hB hT Hls.out)
      have Hsm := Lib.hid (fun (B : Option Addr) (cb : Nat) (T : Option Addr) (ct : Nat) (W : World) (hB : IntsAt W B args) (hT : IntsAt W T saved) (hA : IntsAt W A args) (hS : IntsAt W S saved) => show Calls Tryd.prog 10 #[.agg #[.int .i64 regs, .slice B args.length cb, .int .i64 ret, .slice T saved.length ct], .agg #[.int .i64 regs, .slice A args.length ca, .int .i64 ret, .slice S saved.length cs]] W (fun e w' => e = .returned (.bool true) ∧ Keeps (fun _ => False) W w') from same_says true ⟨regs, args, ret, saved⟩ ⟨regs, args, ret, saved⟩ ⟨fun _ => rfl, fun _ => rfl⟩ B cb T ct A ca S cs W hB hT hA hS Hla.out Hls.out Hla.out Hls.out)
      simp only at hlb
      clear hr
      generalize Mch.text ⟨regs, args, ret, saved⟩ = tm at *
      generalize Mch.lostTo ⟨regs, args, ret, saved⟩ regs.toNat = l at *
      have hsum := hlo.sum
      simp only at hsum
      have hll : l.length ≤ 64 := by have := hlb.1.2; omega
      have Hlo := Lib.hid hlo
      clear hlo hlb
      go_enter Tryd.func4, Tryd.ntmps4
      go_upto_region 10 with (first | (go_at_call 5; refine Haw.out.mono ?_; rintro e w1 ⟨rfl, k⟩; replace H := Lib.hid (H.out.keep k); clear c0 c1 c2 c3; have c0 := H.out.at_.c0; have c1 := H.out.at_.c1; have c2 := H.out.at_.c2; have c3 := H.out.at_.c3; simp only at c0 c1 c2 c3; clear k; clear Haw) | (go_at_call 8; refine (Hpm.out _ H.out.at_.args H.out.at_.saved).mono ?_; rintro e w5 ⟨rfl, k⟩; replace H := Lib.hid (H.out.keep k); clear c0 c1 c2 c3; have c0 := H.out.at_.c0; have c1 := H.out.at_.c1; have c2 := H.out.at_.c2; have c3 := H.out.at_.c3; simp only at c0 c1 c2 c3; clear k; clear Hpm) | (go_at_call 7; have m5 := right_says true ⟨regs, args, ret, saved⟩ Hr.out A ca S cs _ H.out.at_.args H.out.at_.saved Hla.out Hls.out; simp only [Mch.V] at m5; refine m5.mono ?_; clear m5; rintro e w5 ⟨rfl, k⟩; replace H := Lib.hid (H.out.keep k); clear c0 c1 c2 c3; have c0 := H.out.at_.c0; have c1 := H.out.at_.c1; have c2 := H.out.at_.c2; have c3 := H.out.at_.c3; simp only at c0 c1 c2 c3; clear k) | (go_at_call 9; refine (HM2.out _ H.out.ks).mono ?_; rintro e w7 ⟨A1, ca1, S1, cs1, rfl, hB, hT, k⟩; have HN := Lib.hid (MachAt.new (m := ⟨regs, args, ret, saved⟩) ca1 cs1 hB hT); replace H := Lib.hid ((H.out.keep k).keep ((Keeps.refl (fun _ => False) w7).alloc (.cells #[.int .i64 regs, .slice A1 args.length ca1, .int .i64 ret, .slice S1 saved.length cs1] 24))); clear k hB hT HM2 c0 c1 c2 c3))
      have c0 := H.out.at_.c0
      have c1 := H.out.at_.c1
      have c2 := H.out.at_.c2
      have c3 := H.out.at_.c3
      have d0 := HN.out.c0
      have d1 := HN.out.c1
      have d2 := HN.out.c2
      have d3 := HN.out.c3
      simp only at c0 c1 c2 c3 d0 d1 d2 d3
      generalize w7.heap.size = nb at *
      generalize w7.alloc (.cells #[.int .i64 regs, .slice A1 args.length ca1, .int .i64 ret, .slice S1 saved.length cs1] 24) = W7 at *
      go_upto_region 13 with (first | (go_at_call 10; refine (Hsm.out A1 ca1 S1 cs1 _ HN.out.args HN.out.saved H.out.at_.args H.out.at_.saved).mono ?_; rintro e w8 ⟨rfl, k⟩; replace H := Lib.hid (H.out.keep k); clear c0 c1 c2 c3; have c0 := H.out.at_.c0; have c1 := H.out.at_.c1; have c2 := H.out.at_.c2; have c3 := H.out.at_.c3; simp only at c0 c1 c2 c3; clear k; clear d0 d1 d2 d3 HN Hsm) | (go_at_call 11; refine (Hlm.out _ H.out.at_.args H.out.at_.saved).mono ?_; rintro e w9 ⟨F, fc, rfl, hF, k⟩; have HL := Lib.hid hF; replace H := Lib.hid (H.out.keep k); clear c0 c1 c2 c3; have c0 := H.out.at_.c0; have c1 := H.out.at_.c1; have c2 := H.out.at_.c2; have c3 := H.out.at_.c3; simp only at c0 c1 c2 c3; clear k; clear hF Hlm))
      generalize hmb : w.heap.size = mb at *
      have Hmb := Lib.hid hmb
      clear hmb
      have q3 : IntKind.i64.wrap ((l.length : Int) + saved.length) = l.length + saved.length := IntWalk.i64_in _ (by have := Hls.out; omega)
      have q4 : IntKind.i64.wrap regs = regs := IntWalk.i64_in _ (by have := Hls.out; omega)
      have hne : (((l.length : Int) + saved.length) != regs) = false := bne_eq_false_iff_eq.2 hsum
      refine start_ (n := 18) (S := (fun w' => w'.cell? ⟨mb, 0, none⟩ = some (.int .i64 regs) ∧ w'.cell? ⟨mb, 1, none⟩ = some (.slice A args.length ca) ∧ w'.cell? ⟨mb, 2, none⟩ = some (.int .i64 ret) ∧ w'.cell? ⟨mb, 3, none⟩ = some (.slice S saved.length cs))) (ds := []) #[false, false, false, false, false, false, false, false, false, false, false, false, false, false, false, false, false, false] (by kernel_rfl) rfl rfl (by exact ⟨c0, c1, c2, c3⟩) (fun hHeld => ?_)
      replace H := Lib.hid (H.out.keep ((Keeps.refl _ _).drew))
      replace HL := Lib.hid (HL.out.keep0 ((Keeps.refl _ _).drew))
      clear c0 c1 c2 c3
      refine pure_ (i := 0) (N := some 58) (v := ?_) (a' := ?_) #[true, false, false, false, false, false, false, false, false, false, false, false, false, false, false, false, false, false] rfl rfl (by kernel_rfl) (fun _ _ _ h => h) (Or.inl ⟨by rfl, ?_⟩) ?_ ?_
      rotate_left
      · intro w'
        go_simp
        with_reducible rfl
      rotate_left
      · simp only [Act.put, List.setIfInBounds_toArray, List.set_cons_zero, List.set_cons_succ]
        rfl
      refine pure_ (i := 1) (N := some 59) (v := ?_) (a' := ?_) #[true, true, false, false, false, false, false, false, false, false, false, false, false, false, false, false, false, false] rfl rfl (by kernel_rfl) (fun _ _ _ h => h) (Or.inl ⟨by rfl, ?_⟩) ?_ ?_
      rotate_left
      · intro w'
        go_simp
        with_reducible rfl
      rotate_left
      · simp only [Act.put, List.setIfInBounds_toArray, List.set_cons_zero, List.set_cons_succ]
        rfl
      refine pure_ (i := 2) (N := some 60) (v := ?_) (a' := ?_) #[true, true, true, false, false, false, false, false, false, false, false, false, false, false, false, false, false, false] rfl rfl (by kernel_rfl) (fun _ _ _ h => h) (Or.inl ⟨by rfl, ?_⟩) ?_ ?_
      rotate_left
      · intro w'
        go_simp
        with_reducible rfl
      rotate_left
      · simp only [Act.put, List.setIfInBounds_toArray, List.set_cons_zero, List.set_cons_succ]
        rfl
      refine take_ (i := 3) (N := some 61) (v := ?_) (a' := ?_) #[true, true, true, true, false, false, false, false, false, false, false, false, false, false, false, false, false, false] rfl rfl (by kernel_rfl) (fun _ _ _ h => h) (Or.inl ⟨by rfl, ?_⟩) hHeld ?_ ?_
      rotate_left
      · intro w' hSw
        obtain ⟨hs0, hs1, hs2, hs3⟩ := hSw
        go_simp
        with_reducible rfl
      rotate_left
      · simp only [Act.put, List.setIfInBounds_toArray, List.set_cons_zero, List.set_cons_succ]
        rfl
      refine pure_ (i := 4) (N := some 62) (v := ?_) (a' := ?_) #[true, true, true, true, true, false, false, false, false, false, false, false, false, false, false, false, false, false] rfl rfl (by kernel_rfl) (fun _ _ _ h => h) (Or.inl ⟨by rfl, ?_⟩) ?_ ?_
      rotate_left
      · intro w'
        go_simp
        with_reducible rfl
      rotate_left
      · simp only [Act.put, List.setIfInBounds_toArray, List.set_cons_zero, List.set_cons_succ]
        rfl
      refine pure_ (i := 5) (N := some 63) (v := ?_) (a' := ?_) #[true, true, true, true, true, true, false, false, false, false, false, false, false, false, false, false, false, false] rfl rfl (by kernel_rfl) (fun _ _ _ h => h) (Or.inl ⟨by rfl, ?_⟩) ?_ ?_
      rotate_left
      · intro w'
        go_simp
        with_reducible rfl
      rotate_left
      · simp only [Act.put, List.setIfInBounds_toArray, List.set_cons_zero, List.set_cons_succ]
        rfl
      refine pure_ (i := 6) (N := some 64) (v := ?_) (a' := ?_) #[true, true, true, true, true, true, true, false, false, false, false, false, false, false, false, false, false, false] rfl rfl (by kernel_rfl) (fun _ _ _ h => h) (Or.inl ⟨by rfl, ?_⟩) ?_ ?_
      rotate_left
      · intro w'
        go_simp
        with_reducible rfl
      rotate_left
      · simp only [Act.put, List.setIfInBounds_toArray, List.set_cons_zero, List.set_cons_succ]
        rfl
      refine take_ (i := 7) (N := some 65) (v := ?_) (a' := ?_) #[true, true, true, true, true, true, true, true, false, false, false, false, false, false, false, false, false, false] rfl rfl (by kernel_rfl) (fun _ _ _ h => h) (Or.inl ⟨by rfl, ?_⟩) hHeld ?_ ?_
      rotate_left
      · intro w' hSw
        obtain ⟨hs0, hs1, hs2, hs3⟩ := hSw
        go_simp
        with_reducible rfl
      rotate_left
      · simp only [Act.put, List.setIfInBounds_toArray, List.set_cons_zero, List.set_cons_succ]
        rfl
      refine pure_ (i := 8) (N := some 66) (v := (.bool false)) (a' := ?_) #[true, true, true, true, true, true, true, true, true, false, false, false, false, false, false, false, false, false] rfl rfl (by kernel_rfl) (fun _ _ _ h => h) (Or.inl ⟨by rfl, ?_⟩) ?_ ?_
      · intro w'
        go_simp
        (try simp only [q3, hne])
        (try exact q4)
        (try rfl)
      rotate_left
      · simp only [Act.put, List.setIfInBounds_toArray, List.set_cons_zero, List.set_cons_succ]
        rfl
      refine pure_ (i := 9) (N := some 67) (v := ?_) (a' := ?_) #[true, true, true, true, true, true, true, true, true, true, false, false, false, false, false, false, false, false] rfl rfl (by kernel_rfl) (fun _ _ _ h => h) (Or.inl ⟨by rfl, ?_⟩) ?_ ?_
      rotate_left
      · intro w'
        go_simp
        with_reducible rfl
      rotate_left
      · simp only [Act.put, List.setIfInBounds_toArray, List.set_cons_zero, List.set_cons_succ]
        rfl
      refine take_ (i := 10) (N := some 68) (v := ?_) (a' := ?_) #[true, true, true, true, true, true, true, true, true, true, true, false, false, false, false, false, false, false] rfl rfl (by kernel_rfl) (fun _ _ _ h => h) (Or.inl ⟨by rfl, ?_⟩) hHeld ?_ ?_
      rotate_left
      · intro w' hSw
        obtain ⟨hs0, hs1, hs2, hs3⟩ := hSw
        go_simp
        with_reducible rfl
      rotate_left
      · simp only [Act.put, List.setIfInBounds_toArray, List.set_cons_zero, List.set_cons_succ]
        rfl
      refine pure_ (i := 13) (N := some 71) (v := ?_) (a' := ?_) #[true, true, true, true, true, true, true, true, true, true, true, false, false, true, false, false, false, false] rfl rfl (by kernel_rfl) (fun _ _ _ h => h) (Or.inl ⟨by rfl, ?_⟩) ?_ ?_
      rotate_left
      · intro w'
        go_simp
        with_reducible rfl
      rotate_left
      · simp only [Act.put, List.setIfInBounds_toArray, List.set_cons_zero, List.set_cons_succ]
        rfl
      refine take_ (i := 14) (N := some 72) (v := ?_) (a' := ?_) #[true, true, true, true, true, true, true, true, true, true, true, false, false, true, true, false, false, false] rfl rfl (by kernel_rfl) (fun _ _ _ h => h) (Or.inl ⟨by rfl, ?_⟩) hHeld ?_ ?_
      rotate_left
      · intro w' hSw
        obtain ⟨hs0, hs1, hs2, hs3⟩ := hSw
        go_simp
        with_reducible rfl
      rotate_left
      · simp only [Act.put, List.setIfInBounds_toArray, List.set_cons_zero, List.set_cons_succ]
        rfl
      refine pure_ (i := 15) (N := some 73) (v := ?_) (a' := ?_) #[true, true, true, true, true, true, true, true, true, true, true, false, false, true, true, true, false, false] rfl rfl (by kernel_rfl) (fun _ _ _ h => h) (Or.inl ⟨by rfl, ?_⟩) ?_ ?_
      rotate_left
      · intro w'
        go_simp
        with_reducible rfl
      rotate_left
      · simp only [Act.put, List.setIfInBounds_toArray, List.set_cons_zero, List.set_cons_succ]
        rfl
      refine one_ (i := 11) (N := some 69) #[true, true, true, true, true, true, true, true, true, true, true, true, false, true, true, true, false, false] rfl rfl (by kernel_rfl) (by decide) (fun K hK => ?_)
      refine goes_ (f := 12) Tryd.func12 (by kernel_rfl) rfl #[.agg #[.int .i64 regs, .slice A args.length ca, .int .i64 ret, .slice S saved.length cs]] (by rfl) rfl rfl (by simp only [List.map_toArray, List.map_cons, List.map_nil]; rfl) ?_
      refine (Hkm.out _ H.out.at_.args H.out.at_.saved).mono ?_
      rintro e w10 ⟨G, gc, rfl, k⟩
      refine ⟨_, rfl, ?_⟩
      refine hK.out _ _ ⟨k.cell' hHeld.1 (fun q => q), k.cell' hHeld.2.1 (fun q => q), k.cell' hHeld.2.2.1 (fun q => q), k.cell' hHeld.2.2.2 (fun q => q)⟩ (fun hHeld => ?_)
      replace H := Lib.hid (H.out.keep k)
      replace HL := Lib.hid (HL.out.keep0 k)
      clear k
      clear hK K
      refine norm_ (a' := ?na1011) ?nb1011 ?nc1011
      case nb1011 =>
        simp only [Act.put, List.setIfInBounds_toArray, List.set_cons_zero, List.set_cons_succ]
        rfl
      refine pure_ (i := 12) (N := some 70) (v := ?_) (a' := ?_) #[true, true, true, true, true, true, true, true, true, true, true, true, true, true, true, true, false, false] rfl rfl (by kernel_rfl) (fun _ _ _ h => h) (Or.inl ⟨by rfl, ?_⟩) ?_ ?_
      rotate_left
      · intro w'
        go_simp
        with_reducible rfl
      rotate_left
      · simp only [Act.put, List.setIfInBounds_toArray, List.set_cons_zero, List.set_cons_succ]
        rfl
      refine pure_ (i := 16) (N := some 74) (v := (.bool false)) (a' := ?_) #[true, true, true, true, true, true, true, true, true, true, true, true, true, true, true, true, true, false] rfl rfl (by kernel_rfl) (fun _ _ _ h => h) (Or.inl ⟨by rfl, ?_⟩) ?_ ?_
      · intro w'
        go_simp
        (try simp)
      rotate_left
      · simp only [Act.put, List.setIfInBounds_toArray, List.set_cons_zero, List.set_cons_succ]
        rfl
      refine pure_ (i := 17) (N := some 75) (v := ?_) (a' := ?_) #[true, true, true, true, true, true, true, true, true, true, true, true, true, true, true, true, true, true] rfl rfl (by kernel_rfl) (fun _ _ _ h => h) (Or.inl ⟨by rfl, ?_⟩) ?_ ?_
      rotate_left
      · intro w'
        go_simp
        with_reducible rfl
      rotate_left
      · simp only [Act.put, List.setIfInBounds_toArray, List.set_cons_zero, List.set_cons_succ]
        rfl
      refine done_ (by kernel_rfl) ?_
      clear hHeld q3 q4 hne hsum
      go_wp2
      go_loopw [10, 11] (fun v10 v11 wr => ∃ k : Nat, k ≤ l.length ∧ v11 = .int .i64 k ∧ v10 = .bool (decide (ret ∈ l.take k)) ∧ Hid (BW w wr mb ⟨regs, args, ret, saved⟩ A ca S cs) ∧ Hid (IntsAt wr F l)) (fun _ v11 _ => l.length - (intOf v11).toNat)
      case atStart => exact ⟨0, Nat.zero_le _, rfl, by simp, H, HL⟩
      case round =>
        clear H HL
        obtain ⟨k, hk, rfl, rfl, H, HL⟩ := hrel
        have hc0 := H.out.at_.c0
        have hc1 := H.out.at_.c1
        have hc2 := H.out.at_.c2
        have hc3 := H.out.at_.c3
        simp only at hc0 hc1 hc2 hc3
        by_cases hlt : k < l.length
        · obtain ⟨g, off, rfl, hg, hc⟩ := HL.out (List.length_pos_iff.1 (by omega))
          have hx := hc k l[k] (List.getElem?_eq_getElem hlt)
          have Hx := Lib.hid (Hlo.out.notin k hlt)
          have hfs : decide (ret ∈ l.take (k + 1)) = (decide (ret ∈ l.take k) || decide (l[k] = ret)) := by
            rw [List.take_succ_eq_append_getElem hlt, Bool.eq_iff_iff]
            simp only [List.mem_append, List.mem_singleton, decide_eq_true_eq, Bool.or_eq_true]
            exact ⟨fun q => q.imp id Eq.symm, fun q => q.imp id Eq.symm⟩
          have Hfs := Lib.hid hfs
          clear hfs
          rcases Nat.eq_zero_or_pos k with hk0 | hk0
          · subst hk0
            clear hc
            have hx0 : wr.cell? ⟨g, off + 0, none⟩ = some (.int .i64 l[0]) := hx
            clear hx
            generalize l[0] = x at *
            go_upto_region 19 with (fail)
            refine start_ (n := 22) (S := (fun w' => w'.cell? ⟨mb, 0, none⟩ = some (.int .i64 regs) ∧ w'.cell? ⟨mb, 1, none⟩ = some (.slice A args.length ca) ∧ w'.cell? ⟨mb, 2, none⟩ = some (.int .i64 ret) ∧ w'.cell? ⟨mb, 3, none⟩ = some (.slice S saved.length cs) ∧ w'.cell? ⟨g, off, none⟩ = some (.int .i64 x))) (ds := []) #[false, false, false, false, false, false, false, false, false, false, false, false, false, false, false, false, false, false, false, false, false, false] (by kernel_rfl) rfl rfl (by exact ⟨hc0, hc1, hc2, hc3, hx0⟩) (fun hHeld => ?_)
            replace H := Lib.hid (H.out.keep ((Keeps.refl _ _).drew))
            replace HL := Lib.hid (HL.out.keep0 ((Keeps.refl _ _).drew))
            clear hc0 hc1 hc2 hc3 hx0
            refine take_ (i := 0) (N := some 82) (v := ?_) (a' := ?_) #[true, false, false, false, false, false, false, false, false, false, false, false, false, false, false, false, false, false, false, false, false, false] rfl rfl (by kernel_rfl) (fun _ _ _ h => h) (Or.inl ⟨by rfl, ?_⟩) hHeld ?_ ?_
            rotate_left
            · intro w' hSw
              obtain ⟨hs0, hs1, hs2, hs3, hs4⟩ := hSw
              go_simp
              with_reducible rfl
            rotate_left
            · simp only [Act.put, List.setIfInBounds_toArray, List.set_cons_zero, List.set_cons_succ]
              rfl
            refine pure_ (i := 1) (N := some 83) (v := ?_) (a' := ?_) #[true, true, false, false, false, false, false, false, false, false, false, false, false, false, false, false, false, false, false, false, false, false] rfl rfl (by kernel_rfl) (fun _ _ _ h => h) (Or.inl ⟨by rfl, ?_⟩) ?_ ?_
            rotate_left
            · intro w'
              go_simp
              with_reducible rfl
            rotate_left
            · simp only [Act.put, List.setIfInBounds_toArray, List.set_cons_zero, List.set_cons_succ]
              rfl
            refine pure_ (i := 2) (N := some 84) (v := ?_) (a' := ?_) #[true, true, true, false, false, false, false, false, false, false, false, false, false, false, false, false, false, false, false, false, false, false] rfl rfl (by kernel_rfl) (fun _ _ _ h => h) (Or.inl ⟨by rfl, ?_⟩) ?_ ?_
            rotate_left
            · intro w'
              go_simp
              with_reducible rfl
            rotate_left
            · simp only [Act.put, List.setIfInBounds_toArray, List.set_cons_zero, List.set_cons_succ]
              rfl
            refine pure_ (i := 3) (N := some 85) (v := ?_) (a' := ?_) #[true, true, true, true, false, false, false, false, false, false, false, false, false, false, false, false, false, false, false, false, false, false] rfl rfl (by kernel_rfl) (fun _ _ _ h => h) (Or.inl ⟨by rfl, ?_⟩) ?_ ?_
            rotate_left
            · intro w'
              go_simp
              with_reducible rfl
            rotate_left
            · simp only [Act.put, List.setIfInBounds_toArray, List.set_cons_zero, List.set_cons_succ]
              rfl
            refine take_ (i := 4) (N := some 86) (v := ?_) (a' := ?_) #[true, true, true, true, true, false, false, false, false, false, false, false, false, false, false, false, false, false, false, false, false, false] rfl rfl (by kernel_rfl) (fun _ _ _ h => h) (Or.inl ⟨by rfl, ?_⟩) hHeld ?_ ?_
            rotate_left
            · intro w' hSw
              obtain ⟨hs0, hs1, hs2, hs3, hs4⟩ := hSw
              go_simp
              with_reducible rfl
            rotate_left
            · simp only [Act.put, List.setIfInBounds_toArray, List.set_cons_zero, List.set_cons_succ]
              rfl
            refine one_ (i := 5) (N := some 87) #[true, true, true, true, true, true, false, false, false, false, false, false, false, false, false, false, false, false, false, false, false, false] rfl rfl (by kernel_rfl) (by decide) (fun K hK => ?_)
            refine goes_ (f := 13) Tryd.func13 (by kernel_rfl) rfl #[.agg #[.int .i64 regs, .slice A args.length ca, .int .i64 ret, .slice S saved.length cs], .int .i64 x] (by rfl) rfl rfl (by simp only [List.map_toArray, List.map_cons, List.map_nil]; rfl) ?_
            refine (Him.out x Hx.out _ H.out.at_.args H.out.at_.saved).mono ?_
            rintro e w10 ⟨rfl, k10⟩
            refine ⟨_, rfl, ?_⟩
            refine hK.out _ _ ⟨k10.cell' hHeld.1 (fun q => q), k10.cell' hHeld.2.1 (fun q => q), k10.cell' hHeld.2.2.1 (fun q => q), k10.cell' hHeld.2.2.2.1 (fun q => q), k10.cell' hHeld.2.2.2.2 (fun q => q)⟩ (fun hHeld => ?_)
            replace H := Lib.hid (H.out.keep k10)
            replace HL := Lib.hid (HL.out.keep0 k10)
            clear k10
            clear hK K
            refine norm_ (a' := ?na2005) ?nb2005 ?nc2005
            case nb2005 =>
              simp only [Act.put, List.setIfInBounds_toArray, List.set_cons_zero, List.set_cons_succ]
              rfl
            refine pure_ (i := 6) (N := some 88) (v := ?_) (a' := ?_) #[true, true, true, true, true, true, true, false, false, false, false, false, false, false, false, false, false, false, false, false, false, false] rfl rfl (by kernel_rfl) (fun _ _ _ h => h) (Or.inl ⟨by rfl, ?_⟩) ?_ ?_
            rotate_left
            · intro w'
              go_simp
              with_reducible rfl
            rotate_left
            · simp only [Act.put, List.setIfInBounds_toArray, List.set_cons_zero, List.set_cons_succ]
              rfl
            refine pure_ (i := 7) (N := some 89) (v := ?_) (a' := ?_) #[true, true, true, true, true, true, true, true, false, false, false, false, false, false, false, false, false, false, false, false, false, false] rfl rfl (by kernel_rfl) (fun _ _ _ h => h) (Or.inl ⟨by rfl, ?_⟩) ?_ ?_
            rotate_left
            · intro w'
              go_simp
              with_reducible rfl
            rotate_left
            · simp only [Act.put, List.setIfInBounds_toArray, List.set_cons_zero, List.set_cons_succ]
              rfl
            refine pure_ (i := 8) (N := some 90) (v := (.bool false)) (a' := ?_) #[true, true, true, true, true, true, true, true, true, false, false, false, false, false, false, false, false, false, false, false, false, false] rfl rfl (by kernel_rfl) (fun _ _ _ h => h) (Or.inl ⟨by rfl, ?_⟩) ?_ ?_
            · intro w'
              go_simp
              (try simp)
            rotate_left
            · simp only [Act.put, List.setIfInBounds_toArray, List.set_cons_zero, List.set_cons_succ]
              rfl
            refine pure_ (i := 9) (N := some 91) (v := ?_) (a' := ?_) #[true, true, true, true, true, true, true, true, true, true, false, false, false, false, false, false, false, false, false, false, false, false] rfl rfl (by kernel_rfl) (fun _ _ _ h => h) (Or.inl ⟨by rfl, ?_⟩) ?_ ?_
            rotate_left
            · intro w'
              go_simp
              with_reducible rfl
            rotate_left
            · simp only [Act.put, List.setIfInBounds_toArray, List.set_cons_zero, List.set_cons_succ]
              rfl
            refine pure_ (i := 10) (N := some 92) (v := undef) (a' := ?_) #[true, true, true, true, true, true, true, true, true, true, true, false, false, false, false, false, false, false, false, false, false, false] rfl rfl (by kernel_rfl) (fun _ _ _ h => h) (Or.inr ⟨by rfl, rfl⟩) ?_ ?_
            rotate_left
            · simp only [Act.put, List.setIfInBounds_toArray, List.set_cons_zero, List.set_cons_succ]
              rfl
            refine pure_ (i := 11) (N := some 93) (v := undef) (a' := ?_) #[true, true, true, true, true, true, true, true, true, true, true, true, false, false, false, false, false, false, false, false, false, false] rfl rfl (by kernel_rfl) (fun _ _ _ h => h) (Or.inr ⟨by rfl, rfl⟩) ?_ ?_
            rotate_left
            · simp only [Act.put, List.setIfInBounds_toArray, List.set_cons_zero, List.set_cons_succ]
              rfl
            refine pure_ (i := 12) (N := some 94) (v := undef) (a' := ?_) #[true, true, true, true, true, true, true, true, true, true, true, true, true, false, false, false, false, false, false, false, false, false] rfl rfl (by kernel_rfl) (fun _ _ _ h => h) (Or.inr ⟨by rfl, rfl⟩) ?_ ?_
            rotate_left
            · simp only [Act.put, List.setIfInBounds_toArray, List.set_cons_zero, List.set_cons_succ]
              rfl
            refine pure_ (i := 13) (N := some 95) (v := undef) (a' := ?_) #[true, true, true, true, true, true, true, true, true, true, true, true, true, true, false, false, false, false, false, false, false, false] rfl rfl (by kernel_rfl) (fun _ _ _ h => h) (Or.inr ⟨by rfl, rfl⟩) ?_ ?_
            rotate_left
            · simp only [Act.put, List.setIfInBounds_toArray, List.set_cons_zero, List.set_cons_succ]
              rfl
            refine pure_ (i := 14) (N := some 96) (v := undef) (a' := ?_) #[true, true, true, true, true, true, true, true, true, true, true, true, true, true, true, false, false, false, false, false, false, false] rfl rfl (by kernel_rfl) (fun _ _ _ h => h) (Or.inr ⟨by rfl, rfl⟩) ?_ ?_
            rotate_left
            · simp only [Act.put, List.setIfInBounds_toArray, List.set_cons_zero, List.set_cons_succ]
              rfl
            refine pure_ (i := 15) (N := some 97) (v := undef) (a' := ?_) #[true, true, true, true, true, true, true, true, true, true, true, true, true, true, true, true, false, false, false, false, false, false] rfl rfl (by kernel_rfl) (fun _ _ _ h => h) (Or.inr ⟨by rfl, rfl⟩) ?_ ?_
            rotate_left
            · simp only [Act.put, List.setIfInBounds_toArray, List.set_cons_zero, List.set_cons_succ]
              rfl
            refine pure_ (i := 16) (N := some 98) (v := undef) (a' := ?_) #[true, true, true, true, true, true, true, true, true, true, true, true, true, true, true, true, true, false, false, false, false, false] rfl rfl (by kernel_rfl) (fun _ _ _ h => h) (Or.inr ⟨by rfl, rfl⟩) ?_ ?_
            rotate_left
            · simp only [Act.put, List.setIfInBounds_toArray, List.set_cons_zero, List.set_cons_succ]
              rfl
            refine pure_ (i := 17) (N := some 99) (v := undef) (a' := ?_) #[true, true, true, true, true, true, true, true, true, true, true, true, true, true, true, true, true, true, false, false, false, false] rfl rfl (by kernel_rfl) (fun _ _ _ h => h) (Or.inr ⟨by rfl, rfl⟩) ?_ ?_
            rotate_left
            · simp only [Act.put, List.setIfInBounds_toArray, List.set_cons_zero, List.set_cons_succ]
              rfl
            refine pure_ (i := 18) (N := some 100) (v := undef) (a' := ?_) #[true, true, true, true, true, true, true, true, true, true, true, true, true, true, true, true, true, true, true, false, false, false] rfl rfl (by kernel_rfl) (fun _ _ _ h => h) (Or.inr ⟨by rfl, rfl⟩) ?_ ?_
            rotate_left
            · simp only [Act.put, List.setIfInBounds_toArray, List.set_cons_zero, List.set_cons_succ]
              rfl
            refine pure_ (i := 19) (N := some 101) (v := undef) (a' := ?_) #[true, true, true, true, true, true, true, true, true, true, true, true, true, true, true, true, true, true, true, true, false, false] rfl rfl (by kernel_rfl) (fun _ _ _ h => h) (Or.inr ⟨by rfl, rfl⟩) ?_ ?_
            rotate_left
            · simp only [Act.put, List.setIfInBounds_toArray, List.set_cons_zero, List.set_cons_succ]
              rfl
            refine pure_ (i := 20) (N := some 102) (v := ?_) (a' := ?_) #[true, true, true, true, true, true, true, true, true, true, true, true, true, true, true, true, true, true, true, true, true, false] rfl rfl (by kernel_rfl) (fun _ _ _ h => h) (Or.inl ⟨by rfl, ?_⟩) ?_ ?_
            rotate_left
            · intro w'
              go_simp
              with_reducible rfl
            rotate_left
            · simp only [Act.put, List.setIfInBounds_toArray, List.set_cons_zero, List.set_cons_succ]
              rfl
            refine pure_ (i := 21) (N := some 103) (v := ?_) (a' := ?_) #[true, true, true, true, true, true, true, true, true, true, true, true, true, true, true, true, true, true, true, true, true, true] rfl rfl (by kernel_rfl) (fun _ _ _ h => h) (Or.inl ⟨by rfl, ?_⟩) ?_ ?_
            rotate_left
            · intro w'
              go_simp
              with_reducible rfl
            rotate_left
            · simp only [Act.put, List.setIfInBounds_toArray, List.set_cons_zero, List.set_cons_succ]
              rfl
            refine done_ (by kernel_rfl) ?_
            have h2 : ∃ W : World, Hid (BW w W mb ⟨regs, args, ret, saved⟩ A ca S cs) := ⟨_, H⟩
            clear h2
            obtain ⟨c0, c1, c2, c3, cx⟩ := hHeld
            clear c0 c1 c3
            have la : ∀ n, (World.drewN w10 n).cell? ⟨mb, 2, none⟩ = some (.int .i64 ret) := fun n => by simpa using c2
            have lb : ∀ n, (World.drewN w10 n).cell? ⟨g, off, none⟩ = some (.int .i64 x) := fun n => by simpa using cx
            clear c2 cx
            have hf : decide (ret ∈ l.take 0) = false := by simp
            rw [hf] at Hfs
            by_cases hxr : x = ret
            · have hxb : (x == ret) = true := beq_iff_eq.2 hxr
              have Hd := Lib.hid (show decide (x = ret) = true from decide_eq_true hxr)
              clear hxr
              go_wp2_with fail
              go_quiet (fail)
              clear la lb hxb
              go_wp2
              go_roundw
              case rel => exact ⟨0 + 1, by omega, by go_num, by rw [Hfs.out, Hd.out]; rfl, Lib.hid (H.out.keep ((Keeps.refl _ _).drewN _)), Lib.hid (HL.out.keep0 ((Keeps.refl _ _).drewN _))⟩
              case measure => simp [intOf]; omega
            · have hxb : (x == ret) = false := beq_eq_false_iff_ne.2 hxr
              have Hd := Lib.hid (show decide (x = ret) = false from decide_eq_false hxr)
              clear hxr
              go_wp2_with fail
              go_quiet (fail)
              clear la lb hxb
              go_wp2
              go_roundw
              case rel => exact ⟨0 + 1, by omega, by go_num, by rw [Hfs.out, Hd.out]; rfl, Lib.hid (H.out.keep ((Keeps.refl _ _).drewN _)), Lib.hid (HL.out.keep0 ((Keeps.refl _ _).drewN _))⟩
              case measure => simp [intOf]; omega
          · obtain ⟨t, ht⟩ : ∃ t, k = t + 1 := ⟨k - 1, by omega⟩
            have htl : t < l.length := by omega
            have hy := hc t l[t] (List.getElem?_eq_getElem htl)
            have hup : l[t] < l[k] := by subst ht; exact Hlo.out.up t hlt
            have q5 : IntKind.i64.wrap ((k : Int) - 1) = t := by rw [IntWalk.i64_in _ (by omega)]; omega
            have hge : decide (l[t] ≥ l[k]) = false := decide_eq_false (by omega)
            have hk1 : decide ((k : Int) > 0) = true := decide_eq_true (by omega)
            clear ht
            clear hc
            generalize l[k] = x at *
            generalize l[t] = y at *
            go_upto_region 19 with (fail)
            refine start_ (n := 22) (S := (fun w' => w'.cell? ⟨mb, 0, none⟩ = some (.int .i64 regs) ∧ w'.cell? ⟨mb, 1, none⟩ = some (.slice A args.length ca) ∧ w'.cell? ⟨mb, 2, none⟩ = some (.int .i64 ret) ∧ w'.cell? ⟨mb, 3, none⟩ = some (.slice S saved.length cs) ∧ w'.cell? ⟨g, off + k, none⟩ = some (.int .i64 x) ∧ w'.cell? ⟨g, off + t, none⟩ = some (.int .i64 y))) (ds := []) #[false, false, false, false, false, false, false, false, false, false, false, false, false, false, false, false, false, false, false, false, false, false] (by kernel_rfl) rfl rfl (by exact ⟨hc0, hc1, hc2, hc3, hx, hy⟩) (fun hHeld => ?_)
            replace H := Lib.hid (H.out.keep ((Keeps.refl _ _).drew))
            replace HL := Lib.hid (HL.out.keep0 ((Keeps.refl _ _).drew))
            clear hc0 hc1 hc2 hc3 hx hy
            refine take_ (i := 0) (N := some 82) (v := ?_) (a' := ?_) #[true, false, false, false, false, false, false, false, false, false, false, false, false, false, false, false, false, false, false, false, false, false] rfl rfl (by kernel_rfl) (fun _ _ _ h => h) (Or.inl ⟨by rfl, ?_⟩) hHeld ?_ ?_
            rotate_left
            · intro w' hSw
              obtain ⟨hs0, hs1, hs2, hs3, hs4, hs5⟩ := hSw
              go_simp
              with_reducible rfl
            rotate_left
            · simp only [Act.put, List.setIfInBounds_toArray, List.set_cons_zero, List.set_cons_succ]
              rfl
            refine pure_ (i := 1) (N := some 83) (v := ?_) (a' := ?_) #[true, true, false, false, false, false, false, false, false, false, false, false, false, false, false, false, false, false, false, false, false, false] rfl rfl (by kernel_rfl) (fun _ _ _ h => h) (Or.inl ⟨by rfl, ?_⟩) ?_ ?_
            rotate_left
            · intro w'
              go_simp
              with_reducible rfl
            rotate_left
            · simp only [Act.put, List.setIfInBounds_toArray, List.set_cons_zero, List.set_cons_succ]
              rfl
            refine pure_ (i := 2) (N := some 84) (v := ?_) (a' := ?_) #[true, true, true, false, false, false, false, false, false, false, false, false, false, false, false, false, false, false, false, false, false, false] rfl rfl (by kernel_rfl) (fun _ _ _ h => h) (Or.inl ⟨by rfl, ?_⟩) ?_ ?_
            rotate_left
            · intro w'
              go_simp
              with_reducible rfl
            rotate_left
            · simp only [Act.put, List.setIfInBounds_toArray, List.set_cons_zero, List.set_cons_succ]
              rfl
            refine pure_ (i := 3) (N := some 85) (v := ?_) (a' := ?_) #[true, true, true, true, false, false, false, false, false, false, false, false, false, false, false, false, false, false, false, false, false, false] rfl rfl (by kernel_rfl) (fun _ _ _ h => h) (Or.inl ⟨by rfl, ?_⟩) ?_ ?_
            rotate_left
            · intro w'
              go_simp
              with_reducible rfl
            rotate_left
            · simp only [Act.put, List.setIfInBounds_toArray, List.set_cons_zero, List.set_cons_succ]
              rfl
            refine take_ (i := 4) (N := some 86) (v := ?_) (a' := ?_) #[true, true, true, true, true, false, false, false, false, false, false, false, false, false, false, false, false, false, false, false, false, false] rfl rfl (by kernel_rfl) (fun _ _ _ h => h) (Or.inl ⟨by rfl, ?_⟩) hHeld ?_ ?_
            rotate_left
            · intro w' hSw
              obtain ⟨hs0, hs1, hs2, hs3, hs4, hs5⟩ := hSw
              go_simp
              with_reducible rfl
            rotate_left
            · simp only [Act.put, List.setIfInBounds_toArray, List.set_cons_zero, List.set_cons_succ]
              rfl
            refine one_ (i := 5) (N := some 87) #[true, true, true, true, true, true, false, false, false, false, false, false, false, false, false, false, false, false, false, false, false, false] rfl rfl (by kernel_rfl) (by decide) (fun K hK => ?_)
            refine goes_ (f := 13) Tryd.func13 (by kernel_rfl) rfl #[.agg #[.int .i64 regs, .slice A args.length ca, .int .i64 ret, .slice S saved.length cs], .int .i64 x] (by rfl) rfl rfl (by simp only [List.map_toArray, List.map_cons, List.map_nil]; rfl) ?_
            refine (Him.out x Hx.out _ H.out.at_.args H.out.at_.saved).mono ?_
            rintro e w10 ⟨rfl, k10⟩
            refine ⟨_, rfl, ?_⟩
            refine hK.out _ _ ⟨k10.cell' hHeld.1 (fun q => q), k10.cell' hHeld.2.1 (fun q => q), k10.cell' hHeld.2.2.1 (fun q => q), k10.cell' hHeld.2.2.2.1 (fun q => q), k10.cell' hHeld.2.2.2.2.1 (fun q => q), k10.cell' hHeld.2.2.2.2.2 (fun q => q)⟩ (fun hHeld => ?_)
            replace H := Lib.hid (H.out.keep k10)
            replace HL := Lib.hid (HL.out.keep0 k10)
            clear k10
            clear hK K
            refine norm_ (a' := ?na3005) ?nb3005 ?nc3005
            case nb3005 =>
              simp only [Act.put, List.setIfInBounds_toArray, List.set_cons_zero, List.set_cons_succ]
              rfl
            refine pure_ (i := 6) (N := some 88) (v := ?_) (a' := ?_) #[true, true, true, true, true, true, true, false, false, false, false, false, false, false, false, false, false, false, false, false, false, false] rfl rfl (by kernel_rfl) (fun _ _ _ h => h) (Or.inl ⟨by rfl, ?_⟩) ?_ ?_
            rotate_left
            · intro w'
              go_simp
              with_reducible rfl
            rotate_left
            · simp only [Act.put, List.setIfInBounds_toArray, List.set_cons_zero, List.set_cons_succ]
              rfl
            refine pure_ (i := 7) (N := some 89) (v := ?_) (a' := ?_) #[true, true, true, true, true, true, true, true, false, false, false, false, false, false, false, false, false, false, false, false, false, false] rfl rfl (by kernel_rfl) (fun _ _ _ h => h) (Or.inl ⟨by rfl, ?_⟩) ?_ ?_
            rotate_left
            · intro w'
              go_simp
              with_reducible rfl
            rotate_left
            · simp only [Act.put, List.setIfInBounds_toArray, List.set_cons_zero, List.set_cons_succ]
              rfl
            refine pure_ (i := 8) (N := some 90) (v := (.bool true)) (a' := ?_) #[true, true, true, true, true, true, true, true, true, false, false, false, false, false, false, false, false, false, false, false, false, false] rfl rfl (by kernel_rfl) (fun _ _ _ h => h) (Or.inl ⟨by rfl, ?_⟩) ?_ ?_
            · intro w'
              go_simp
              (try simp only [hk1])
              (try (simp; omega))
            rotate_left
            · simp only [Act.put, List.setIfInBounds_toArray, List.set_cons_zero, List.set_cons_succ]
              rfl
            refine pure_ (i := 9) (N := some 91) (v := ?_) (a' := ?_) #[true, true, true, true, true, true, true, true, true, true, false, false, false, false, false, false, false, false, false, false, false, false] rfl rfl (by kernel_rfl) (fun _ _ _ h => h) (Or.inl ⟨by rfl, ?_⟩) ?_ ?_
            rotate_left
            · intro w'
              go_simp
              with_reducible rfl
            rotate_left
            · simp only [Act.put, List.setIfInBounds_toArray, List.set_cons_zero, List.set_cons_succ]
              rfl
            refine pure_ (i := 10) (N := some 92) (v := ?_) (a' := ?_) #[true, true, true, true, true, true, true, true, true, true, true, false, false, false, false, false, false, false, false, false, false, false] rfl rfl (by kernel_rfl) (fun _ _ _ h => h) (Or.inl ⟨by rfl, ?_⟩) ?_ ?_
            rotate_left
            · intro w'
              go_simp
              with_reducible rfl
            rotate_left
            · simp only [Act.put, List.setIfInBounds_toArray, List.set_cons_zero, List.set_cons_succ]
              rfl
            refine pure_ (i := 11) (N := some 93) (v := ?_) (a' := ?_) #[true, true, true, true, true, true, true, true, true, true, true, true, false, false, false, false, false, false, false, false, false, false] rfl rfl (by kernel_rfl) (fun _ _ _ h => h) (Or.inl ⟨by rfl, ?_⟩) ?_ ?_
            rotate_left
            · intro w'
              go_simp
              with_reducible rfl
            rotate_left
            · simp only [Act.put, List.setIfInBounds_toArray, List.set_cons_zero, List.set_cons_succ]
              rfl
            refine pure_ (i := 12) (N := some 94) (v := (.int .i64 t)) (a' := ?_) #[true, true, true, true, true, true, true, true, true, true, true, true, true, false, false, false, false, false, false, false, false, false] rfl rfl (by kernel_rfl) (fun _ _ _ h => h) (Or.inl ⟨by rfl, ?_⟩) ?_ ?_
            · intro w'
              go_simp
              (try exact q5)
              (try rw [q5])
            rotate_left
            · simp only [Act.put, List.setIfInBounds_toArray, List.set_cons_zero, List.set_cons_succ]
              rfl
            refine pure_ (i := 13) (N := some 95) (v := ?_) (a' := ?_) #[true, true, true, true, true, true, true, true, true, true, true, true, true, true, false, false, false, false, false, false, false, false] rfl rfl (by kernel_rfl) (fun _ _ _ h => h) (Or.inl ⟨by rfl, ?_⟩) ?_ ?_
            rotate_left
            · intro w'
              go_simp
              with_reducible rfl
            rotate_left
            · simp only [Act.put, List.setIfInBounds_toArray, List.set_cons_zero, List.set_cons_succ]
              rfl
            refine take_ (i := 14) (N := some 96) (v := ?_) (a' := ?_) #[true, true, true, true, true, true, true, true, true, true, true, true, true, true, true, false, false, false, false, false, false, false] rfl rfl (by kernel_rfl) (fun _ _ _ h => h) (Or.inl ⟨by rfl, ?_⟩) hHeld ?_ ?_
            rotate_left
            · intro w' hSw
              obtain ⟨hs0, hs1, hs2, hs3, hs4, hs5⟩ := hSw
              go_simp
              with_reducible rfl
            rotate_left
            · simp only [Act.put, List.setIfInBounds_toArray, List.set_cons_zero, List.set_cons_succ]
              rfl
            refine pure_ (i := 15) (N := some 97) (v := ?_) (a' := ?_) #[true, true, true, true, true, true, true, true, true, true, true, true, true, true, true, true, false, false, false, false, false, false] rfl rfl (by kernel_rfl) (fun _ _ _ h => h) (Or.inl ⟨by rfl, ?_⟩) ?_ ?_
            rotate_left
            · intro w'
              go_simp
              with_reducible rfl
            rotate_left
            · simp only [Act.put, List.setIfInBounds_toArray, List.set_cons_zero, List.set_cons_succ]
              rfl
            refine pure_ (i := 16) (N := some 98) (v := ?_) (a' := ?_) #[true, true, true, true, true, true, true, true, true, true, true, true, true, true, true, true, true, false, false, false, false, false] rfl rfl (by kernel_rfl) (fun _ _ _ h => h) (Or.inl ⟨by rfl, ?_⟩) ?_ ?_
            rotate_left
            · intro w'
              go_simp
              with_reducible rfl
            rotate_left
            · simp only [Act.put, List.setIfInBounds_toArray, List.set_cons_zero, List.set_cons_succ]
              rfl
            refine pure_ (i := 17) (N := some 99) (v := ?_) (a' := ?_) #[true, true, true, true, true, true, true, true, true, true, true, true, true, true, true, true, true, true, false, false, false, false] rfl rfl (by kernel_rfl) (fun _ _ _ h => h) (Or.inl ⟨by rfl, ?_⟩) ?_ ?_
            rotate_left
            · intro w'
              go_simp
              with_reducible rfl
            rotate_left
            · simp only [Act.put, List.setIfInBounds_toArray, List.set_cons_zero, List.set_cons_succ]
              rfl
            refine take_ (i := 18) (N := some 100) (v := ?_) (a' := ?_) #[true, true, true, true, true, true, true, true, true, true, true, true, true, true, true, true, true, true, true, false, false, false] rfl rfl (by kernel_rfl) (fun _ _ _ h => h) (Or.inl ⟨by rfl, ?_⟩) hHeld ?_ ?_
            rotate_left
            · intro w' hSw
              obtain ⟨hs0, hs1, hs2, hs3, hs4, hs5⟩ := hSw
              go_simp
              with_reducible rfl
            rotate_left
            · simp only [Act.put, List.setIfInBounds_toArray, List.set_cons_zero, List.set_cons_succ]
              rfl
            refine pure_ (i := 19) (N := some 101) (v := (.bool false)) (a' := ?_) #[true, true, true, true, true, true, true, true, true, true, true, true, true, true, true, true, true, true, true, true, false, false] rfl rfl (by kernel_rfl) (fun _ _ _ h => h) (Or.inl ⟨by rfl, ?_⟩) ?_ ?_
            · intro w'
              go_simp
              (try simp only [hge])
              (try (simp; omega))
            rotate_left
            · simp only [Act.put, List.setIfInBounds_toArray, List.set_cons_zero, List.set_cons_succ]
              rfl
            refine pure_ (i := 20) (N := some 102) (v := ?_) (a' := ?_) #[true, true, true, true, true, true, true, true, true, true, true, true, true, true, true, true, true, true, true, true, true, false] rfl rfl (by kernel_rfl) (fun _ _ _ h => h) (Or.inl ⟨by rfl, ?_⟩) ?_ ?_
            rotate_left
            · intro w'
              go_simp
              with_reducible rfl
            rotate_left
            · simp only [Act.put, List.setIfInBounds_toArray, List.set_cons_zero, List.set_cons_succ]
              rfl
            refine pure_ (i := 21) (N := some 103) (v := ?_) (a' := ?_) #[true, true, true, true, true, true, true, true, true, true, true, true, true, true, true, true, true, true, true, true, true, true] rfl rfl (by kernel_rfl) (fun _ _ _ h => h) (Or.inl ⟨by rfl, ?_⟩) ?_ ?_
            rotate_left
            · intro w'
              go_simp
              with_reducible rfl
            rotate_left
            · simp only [Act.put, List.setIfInBounds_toArray, List.set_cons_zero, List.set_cons_succ]
              rfl
            refine done_ (by kernel_rfl) ?_
            have h2 : ∃ W : World, Hid (BW w W mb ⟨regs, args, ret, saved⟩ A ca S cs) := ⟨_, H⟩
            clear h2
            obtain ⟨c0, c1, c2, c3, cx, cy⟩ := hHeld
            clear c0 c1 c3 cy hge hk1 q5 htl hup
            have la : ∀ n, (World.drewN w10 n).cell? ⟨mb, 2, none⟩ = some (.int .i64 ret) := fun n => by simpa using c2
            have lb : ∀ n, (World.drewN w10 n).cell? ⟨g, off + k, none⟩ = some (.int .i64 x) := fun n => by simpa using cx
            clear c2 cx
            cases hf : decide (ret ∈ l.take k) with
            | true =>
              rw [hf] at Hfs
              go_wp2_with fail
              go_quiet (fail)
              clear la lb
              go_wp2
              go_roundw
              case rel => exact ⟨k + 1, by omega, by go_num, by rw [Hfs.out]; rfl, Lib.hid (H.out.keep ((Keeps.refl _ _).drewN _)), Lib.hid (HL.out.keep0 ((Keeps.refl _ _).drewN _))⟩
              case measure => simp [intOf]; omega
            | false =>
              rw [hf] at Hfs
              by_cases hxr : x = ret
              · have hxb : (x == ret) = true := beq_iff_eq.2 hxr
                have Hd := Lib.hid (show decide (x = ret) = true from decide_eq_true hxr)
                clear hxr
                go_wp2_with fail
                go_quiet (fail)
                clear la lb hxb
                go_wp2
                go_roundw
                case rel => exact ⟨k + 1, by omega, by go_num, by rw [Hfs.out, Hd.out]; rfl, Lib.hid (H.out.keep ((Keeps.refl _ _).drewN _)), Lib.hid (HL.out.keep0 ((Keeps.refl _ _).drewN _))⟩
                case measure => simp [intOf]; omega
              · have hxb : (x == ret) = false := beq_eq_false_iff_ne.2 hxr
                have Hd := Lib.hid (show decide (x = ret) = false from decide_eq_false hxr)
                clear hxr
                go_wp2_with fail
                go_quiet (fail)
                clear la lb hxb
                go_wp2
                go_roundw
                case rel => exact ⟨k + 1, by omega, by go_num, by rw [Hfs.out, Hd.out]; rfl, Lib.hid (H.out.keep ((Keeps.refl _ _).drewN _)), Lib.hid (HL.out.keep0 ((Keeps.refl _ _).drewN _))⟩
                case measure => simp [intOf]; omega
        · have hkn : k = l.length := by omega
          subst hkn
          have hft : decide (ret ∈ l.take l.length) = true := by rw [List.take_length]; exact decide_eq_true Hlo.out.ret
          rw [hft]
          go_upto_region 24 with (fail)
          have HK := Lib.hid H.out.ks
          clear H HL hc0 hc1 hc2 hc3
          rcases Hform.out with ⟨⟨nr, na, nt, ns⟩, hn, hpn⟩ | ⟨er, her, hpn⟩
          · have HQ := Lib.hid (show ∀ W, Keeps (fun _ => False) w W → Calls Tryd.prog 9 #[.string s] W (PPost nr na nt ns 0 W) from fun W k => by have h := Hps.out W k; rw [hpn] at h; exact h)
            have hln := right_lens hn
            simp only at hln
            have Hn1 := Lib.hid (show na.length ≤ 1000000000 from by omega)
            have Hn2 := Lib.hid (show ns.length ≤ 1000000000 from by omega)
            have HR := Lib.hid (show ∀ W, Keeps (fun _ => False) w W → Calls Tryd.prog 9 #[.string (Mch.text ⟨nr, na, nt, ns⟩)] W (PPost nr na nt ns 0 W) from fun W k => by have h := Hpar.out (Mch.text ⟨nr, na, nt, ns⟩) (by have := text_size hn; omega) W k; rw [text_parse hn] at h; exact h)
            have Hn := Lib.hid hn
            clear hn hpn hln Hps Hpar Hform
            have Hpr := Lib.hid (fun (B : Option Addr) (cb : Nat) (T : Option Addr) (ct : Nat) (W : World) (hB : IntsAt W B na) (hT : IntsAt W T ns) => show Calls Tryd.prog 8 #[.agg #[.int .i64 nr, .slice B na.length cb, .int .i64 nt, .slice T ns.length ct]] W (PrintPost (Mch.text ⟨nr, na, nt, ns⟩) 0 W) from print_yes ⟨nr, na, nt, ns⟩ Hn.out B cb T ct W hB hT Hn1.out Hn2.out)
            generalize Mch.text ⟨nr, na, nt, ns⟩ = tn at *
            go_upto_region 27 with (first | (go_at_call 9; refine (HQ.out _ HK.out).mono ?_; rintro e w8 ⟨B, cb, T, ct, rfl, hB, hT, k⟩; have HN := Lib.hid (BW.mk (MachAt.new (m := ⟨nr, na, nt, ns⟩) cb ct hB hT) ((HK.out.trans k).alloc (.cells #[.int .i64 nr, .slice B na.length cb, .int .i64 nt, .slice T ns.length ct] 24))); clear hB hT k HQ HK))
            have d0 := HN.out.at_.c0
            have d1 := HN.out.at_.c1
            have d2 := HN.out.at_.c2
            have d3 := HN.out.at_.c3
            simp only at d0 d1 d2 d3
            generalize w8.heap.size = nb at *
            generalize w8.alloc (.cells #[.int .i64 nr, .slice B na.length cb, .int .i64 nt, .slice T ns.length ct] 24) = W8 at *
            go_upto_region 29 with (first | (go_at_call 8; refine (Hpr.out B cb T ct _ HN.out.at_.args HN.out.at_.saved).mono ?_; rintro e w9 ⟨rfl, k⟩; replace HN := Lib.hid (HN.out.keep k); clear k d0 d1 d2 d3) | (go_at_call 9; refine (HR.out _ HN.out.ks).mono ?_; rintro e w10 ⟨B', cb', T', ct', rfl, hB, hT, k⟩; have HO := Lib.hid (MachAt.new (m := ⟨nr, na, nt, ns⟩) cb' ct' hB hT); replace HN := Lib.hid ((HN.out.keep k).keep ((Keeps.refl (fun _ => False) w10).alloc (.cells #[.int .i64 nr, .slice B' na.length cb', .int .i64 nt, .slice T' ns.length ct'] 24))); clear hB hT k HR))
            have d0 := HN.out.at_.c0
            have d1 := HN.out.at_.c1
            have d2 := HN.out.at_.c2
            have d3 := HN.out.at_.c3
            have o0 := HO.out.c0
            have o1 := HO.out.c1
            have o2 := HO.out.c2
            have o3 := HO.out.c3
            simp only at d0 d1 d2 d3 o0 o1 o2 o3
            generalize w10.heap.size = ob at *
            generalize w10.alloc (.cells #[.int .i64 nr, .slice B' na.length cb', .int .i64 nt, .slice T' ns.length ct'] 24) = W10 at *
            go_wp2_with (first | (go_at_call 10; have m5 := same_says true ⟨nr, na, nt, ns⟩ ⟨nr, na, nt, ns⟩ ⟨fun _ => rfl, fun _ => rfl⟩ B' cb' T' ct' B cb T ct _ HO.out.args HO.out.saved HN.out.at_.args HN.out.at_.saved Hn1.out Hn2.out Hn1.out Hn2.out; simp only [Mch.V] at m5; refine m5.mono ?_; clear m5; rintro e w11 ⟨rfl, k⟩; have KF := Lib.hid (HN.out.ks.trans k); clear k d0 d1 d2 d3 o0 o1 o2 o3 HN HO))
            go_ret
            exact ⟨rfl, KF.out⟩
          · have HQ := Lib.hid (show ∀ W, Keeps (fun _ => False) w W → Calls Tryd.prog 9 #[.string s] W (PPost 0 [] 0 [] er W) from fun W k => by have h := Hps.out W k; rw [hpn] at h; exact h)
            have heb : (er != 0) = true := by simpa using her
            clear her hpn Hps Hpar Hform
            go_upto_region 25 with (first | (go_at_call 9; refine (HQ.out _ HK.out).mono ?_; rintro e w8 ⟨B, cb, T, ct, rfl, hB, hT, k⟩; have HN := Lib.hid (BW.mk (MachAt.new (m := Mch.zero) cb ct hB hT) ((HK.out.trans k).alloc (.cells #[.int .i64 0, .slice B 0 cb, .int .i64 0, .slice T 0 ct] 24))); clear hB hT k HQ HK))
            have d0 := HN.out.at_.c0
            have d1 := HN.out.at_.c1
            have d2 := HN.out.at_.c2
            have d3 := HN.out.at_.c3
            simp only [Mch.zero, List.length_nil] at d0 d1 d2 d3
            have Hz := Lib.hid (show ∀ (B : Option Addr) (cb : Nat) (T : Option Addr) (ct : Nat) (W : World), Calls Tryd.prog 10 #[.agg #[.int .i64 0, .slice B 0 cb, .int .i64 0, .slice T 0 ct], .agg #[.int .i64 0, .slice none 0 0, .int .i64 0, .slice none 0 0]] W fun e w' => e = .returned (.bool true) ∧ Keeps (fun _ => False) W w' from fun B cb T ct W => same_says true Mch.zero Mch.zero ⟨fun _ => rfl, fun _ => rfl⟩ B cb T ct none 0 none 0 W (fun h => absurd rfl h) (fun h => absurd rfl h) (fun h => absurd rfl h) (fun h => absurd rfl h) (by decide) (by decide) (by decide) (by decide))
            go_wp2_with (first | (go_at_call 10; refine (Hz.out B cb T ct _).mono ?_; rintro e w11 ⟨rfl, k⟩; have KF := Lib.hid (HN.out.ks.trans k); clear k d0 d1 d2 d3 HN))
            go_ret
            exact ⟨rfl, KF.out⟩
    · have Hr := Lib.hid (show RTold false ⟨regs, args, ret, saved⟩ from ⟨fun h => (by cases h), fun h => absurd h hr⟩)
      have Hnr := Lib.hid hr
      clear hr
      go_enter Tryd.func4, Tryd.ntmps4
      go_upto_region 24 with (first | (go_at_call 5; refine Haw.out.mono ?_; rintro e w1 ⟨rfl, k⟩; replace H := Lib.hid (H.out.keep k); clear c0 c1 c2 c3; have c0 := H.out.at_.c0; have c1 := H.out.at_.c1; have c2 := H.out.at_.c2; have c3 := H.out.at_.c3; simp only at c0 c1 c2 c3; clear k; clear Haw) | (go_at_call 8; have m5 := print_no ⟨regs, args, ret, saved⟩ Hnr.out A ca S cs _ H.out.at_.args H.out.at_.saved Hla.out Hls.out; simp only [Mch.V] at m5; refine m5.mono ?_; clear m5; rintro e w5 ⟨rfl, k⟩; replace H := Lib.hid (H.out.keep k); clear c0 c1 c2 c3; have c0 := H.out.at_.c0; have c1 := H.out.at_.c1; have c2 := H.out.at_.c2; have c3 := H.out.at_.c3; simp only at c0 c1 c2 c3; clear k) | (go_at_call 7; have m5 := right_says false ⟨regs, args, ret, saved⟩ Hr.out A ca S cs _ H.out.at_.args H.out.at_.saved Hla.out Hls.out; simp only [Mch.V] at m5; refine m5.mono ?_; clear m5; rintro e w5 ⟨rfl, k⟩; replace H := Lib.hid (H.out.keep k); clear c0 c1 c2 c3; have c0 := H.out.at_.c0; have c1 := H.out.at_.c1; have c2 := H.out.at_.c2; have c3 := H.out.at_.c3; simp only at c0 c1 c2 c3; clear k))
      have HK := Lib.hid H.out.ks
      clear H c0 c1 c2 c3
      rcases Hform.out with ⟨⟨nr, na, nt, ns⟩, hn, hpn⟩ | ⟨er, her, hpn⟩
      · have HQ := Lib.hid (show ∀ W, Keeps (fun _ => False) w W → Calls Tryd.prog 9 #[.string s] W (PPost nr na nt ns 0 W) from fun W k => by have h := Hps.out W k; rw [hpn] at h; exact h)
        have hln := right_lens hn
        simp only at hln
        have Hn1 := Lib.hid (show na.length ≤ 1000000000 from by omega)
        have Hn2 := Lib.hid (show ns.length ≤ 1000000000 from by omega)
        have HR := Lib.hid (show ∀ W, Keeps (fun _ => False) w W → Calls Tryd.prog 9 #[.string (Mch.text ⟨nr, na, nt, ns⟩)] W (PPost nr na nt ns 0 W) from fun W k => by have h := Hpar.out (Mch.text ⟨nr, na, nt, ns⟩) (by have := text_size hn; omega) W k; rw [text_parse hn] at h; exact h)
        have Hn := Lib.hid hn
        clear hn hpn hln Hps Hpar Hform
        have Hpr := Lib.hid (fun (B : Option Addr) (cb : Nat) (T : Option Addr) (ct : Nat) (W : World) (hB : IntsAt W B na) (hT : IntsAt W T ns) => show Calls Tryd.prog 8 #[.agg #[.int .i64 nr, .slice B na.length cb, .int .i64 nt, .slice T ns.length ct]] W (PrintPost (Mch.text ⟨nr, na, nt, ns⟩) 0 W) from print_yes ⟨nr, na, nt, ns⟩ Hn.out B cb T ct W hB hT Hn1.out Hn2.out)
        generalize Mch.text ⟨nr, na, nt, ns⟩ = tn at *
        go_upto_region 27 with (first | (go_at_call 9; refine (HQ.out _ HK.out).mono ?_; rintro e w8 ⟨B, cb, T, ct, rfl, hB, hT, k⟩; have HN := Lib.hid (BW.mk (MachAt.new (m := ⟨nr, na, nt, ns⟩) cb ct hB hT) ((HK.out.trans k).alloc (.cells #[.int .i64 nr, .slice B na.length cb, .int .i64 nt, .slice T ns.length ct] 24))); clear hB hT k HQ HK))
        have d0 := HN.out.at_.c0
        have d1 := HN.out.at_.c1
        have d2 := HN.out.at_.c2
        have d3 := HN.out.at_.c3
        simp only at d0 d1 d2 d3
        generalize w8.heap.size = nb at *
        generalize w8.alloc (.cells #[.int .i64 nr, .slice B na.length cb, .int .i64 nt, .slice T ns.length ct] 24) = W8 at *
        go_upto_region 29 with (first | (go_at_call 8; refine (Hpr.out B cb T ct _ HN.out.at_.args HN.out.at_.saved).mono ?_; rintro e w9 ⟨rfl, k⟩; replace HN := Lib.hid (HN.out.keep k); clear k d0 d1 d2 d3) | (go_at_call 9; refine (HR.out _ HN.out.ks).mono ?_; rintro e w10 ⟨B', cb', T', ct', rfl, hB, hT, k⟩; have HO := Lib.hid (MachAt.new (m := ⟨nr, na, nt, ns⟩) cb' ct' hB hT); replace HN := Lib.hid ((HN.out.keep k).keep ((Keeps.refl (fun _ => False) w10).alloc (.cells #[.int .i64 nr, .slice B' na.length cb', .int .i64 nt, .slice T' ns.length ct'] 24))); clear hB hT k HR))
        have d0 := HN.out.at_.c0
        have d1 := HN.out.at_.c1
        have d2 := HN.out.at_.c2
        have d3 := HN.out.at_.c3
        have o0 := HO.out.c0
        have o1 := HO.out.c1
        have o2 := HO.out.c2
        have o3 := HO.out.c3
        simp only at d0 d1 d2 d3 o0 o1 o2 o3
        generalize w10.heap.size = ob at *
        generalize w10.alloc (.cells #[.int .i64 nr, .slice B' na.length cb', .int .i64 nt, .slice T' ns.length ct'] 24) = W10 at *
        go_wp2_with (first | (go_at_call 10; have m5 := same_says true ⟨nr, na, nt, ns⟩ ⟨nr, na, nt, ns⟩ ⟨fun _ => rfl, fun _ => rfl⟩ B' cb' T' ct' B cb T ct _ HO.out.args HO.out.saved HN.out.at_.args HN.out.at_.saved Hn1.out Hn2.out Hn1.out Hn2.out; simp only [Mch.V] at m5; refine m5.mono ?_; clear m5; rintro e w11 ⟨rfl, k⟩; have KF := Lib.hid (HN.out.ks.trans k); clear k d0 d1 d2 d3 o0 o1 o2 o3 HN HO))
        go_ret
        exact ⟨rfl, KF.out⟩
      · have HQ := Lib.hid (show ∀ W, Keeps (fun _ => False) w W → Calls Tryd.prog 9 #[.string s] W (PPost 0 [] 0 [] er W) from fun W k => by have h := Hps.out W k; rw [hpn] at h; exact h)
        have heb : (er != 0) = true := by simpa using her
        clear her hpn Hps Hpar Hform
        go_upto_region 25 with (first | (go_at_call 9; refine (HQ.out _ HK.out).mono ?_; rintro e w8 ⟨B, cb, T, ct, rfl, hB, hT, k⟩; have HN := Lib.hid (BW.mk (MachAt.new (m := Mch.zero) cb ct hB hT) ((HK.out.trans k).alloc (.cells #[.int .i64 0, .slice B 0 cb, .int .i64 0, .slice T 0 ct] 24))); clear hB hT k HQ HK))
        have d0 := HN.out.at_.c0
        have d1 := HN.out.at_.c1
        have d2 := HN.out.at_.c2
        have d3 := HN.out.at_.c3
        simp only [Mch.zero, List.length_nil] at d0 d1 d2 d3
        have Hz := Lib.hid (show ∀ (B : Option Addr) (cb : Nat) (T : Option Addr) (ct : Nat) (W : World), Calls Tryd.prog 10 #[.agg #[.int .i64 0, .slice B 0 cb, .int .i64 0, .slice T 0 ct], .agg #[.int .i64 0, .slice none 0 0, .int .i64 0, .slice none 0 0]] W fun e w' => e = .returned (.bool true) ∧ Keeps (fun _ => False) W w' from fun B cb T ct W => same_says true Mch.zero Mch.zero ⟨fun _ => rfl, fun _ => rfl⟩ B cb T ct none 0 none 0 W (fun h => absurd rfl h) (fun h => absurd rfl h) (fun h => absurd rfl h) (fun h => absurd rfl h) (by decide) (by decide) (by decide) (by decide))
        go_wp2_with (first | (go_at_call 10; refine (Hz.out B cb T ct _).mono ?_; rintro e w11 ⟨rfl, k⟩; have KF := Lib.hid (HN.out.ks.trans k); clear k d0 d1 d2 d3 HN))
        go_ret
        exact ⟨rfl, KF.out⟩

end
end Go.Proofs.YtfpjdgobannneaaDoor

/-
  MachBack: the row and the tied card, proved: the law returns true at every input; the input reads as it did.
-/
namespace Go.Proofs.YtfpjdgobannneaaDoor
open Go Go.RowKit Go.ChangeShapes Go.WideShapes Go.ChangeAt
open Go.ChangeMaps (open_string shut_string)

set_option maxRecDepth 100000 in
theorem machBack_lifted (os : Os) (started : os.Started) (H : Type) (enc : TypeId × Value → H) :
    ReturnsInHanded {} Tryd.checked os 4 .any (fun w args => (Rows.machBackSpec.pre enc Tryd.prog Tryd.f4 [] false w args ∧ laidMetH Tryd.prog laidL w) ∧ sizedMet enc Tryd.prog Tryd.f4 (OpenSpec.ofChange Rows.machBackSpec) false w args)
      (Rows.machBackSpec.post enc Tryd.prog Tryd.f4 false true false false) := by
  refine returnsInHanded_of_change_and (C := Tryd.checked) (X := fun w _ => laidMetH Tryd.prog laidL w) (fun _ _ _ hh h => h.of_heap hh) own started (by kernel_rfl) Tryd.func4
    (ChangeSpec.witness_shaped (enc := enc) (C := Tryd.checked) (os := os) (X := fun w _ => laidMetH Tryd.prog laidL w) false (World.doorLaid Tryd.prog 400 os) #[.agg #[.int .i64 0, .slice none 0 0, .int .i64 0, .slice none 0 0], .string ByteArray.empty] 8 rfl (World.shaped_of_RefB (by kernel_rfl) (by kernel_rfl)) (by kernel_rfl) (by kernel_rfl) (by kernel_rfl) (door_met os _)) ?_
  intro W base args ds gs before hval0 hW _ hsz0 hL _
  have hsz : (DataW.weightsEach Tryd.prog (Tryd.f4.params.toList ++ Rows.machBackSpec.plain.varTypes Tryd.prog) (ds ++ gs)).all (· ≤ reachBytes) = true := hsz0
  have hval : ∀ (j : Nat) t v, Tryd.f4.params[j]? = some t → args[j]? = some v → Value.okWide Tryd.prog W .any base t v := hval0
  have hW' := hW
  obtain ⟨p, q, hA0, hV, rfl, hfz, hnd⟩ := hW
  have hA : DataW.TrodAll enc Tryd.prog W 0 (fun _ => true) true Tryd.f4.params.toList args.toList ds p := hA0
  rw [Tryd.params4] at hA hval hsz
  obtain ⟨v0, v1, d0, d1, p0, p1, rfl, rfl, rfl, h0, h1⟩ := trodAll_two hA
  obtain ⟨rfl, rfl⟩ := trodVars_none hV
  obtain ⟨a, rfl, rfl, rfl, wa⟩ := open_string Tryd.underlying9 (hval 1 9 v1 rfl rfl) h1
  obtain ⟨hG, h4⟩ := glob_of_laid hL
  have ha : a.size ≤ 140737488355328 := by
    have z := sized_string hsz (j := 1) (t := 9) rfl rfl
    rw [Array.length_toList] at z
    unfold reachBytes at z
    exact Nat.le_trans z (by decide)
  have k0 := h0
  have lt0 : ∀ x ∈ p0, x.block < W.heap.size := by obtain ⟨m, hm⟩ := k0; exact DataW.trod_lt m _ _ _ hm
  obtain ⟨m, A, ca, S, cs, rfl, hA1, hS1, hla, hls⟩ := open_mach hsz (j := 0) rfl rfl (hval 0 24 v0 rfl rfl) h0
  clear hA0 hval0 hsz0 hsz
  refine (back_calls m a A ca S cs W hG h4 hA1 hS1 hla hls ha).mono fun e W' ⟨he, hk⟩ => ?_
  subst he
  have bel : Below W.heap.size W W' := hk.below (Nat.le_refl _) (by simp)
  exact ⟨_, rfl, _, _, _, [], _, [], hW', trodAll_mk1 (shut_bool Tryd.underlying4 _), trodAll_mk2 (Below.trod laidOut (by kernel_rfl) (of_decide_eq_true (by kernel_rfl)) k0 bel lt0) (shut_string Tryd.underlying9 wa), rfl, bel.frame _, fun h => by cases h⟩

theorem machBack_holds : Rows.MachBackSaid :=
  OpenClaim.holds_of_wide 4 Tryd.f4 rfl rfl rfl rfl rfl rfl rfl ⟨rfl, rfl, rfl, rfl, rfl⟩ rfl rfl rfl rfl rfl (by kernel_rfl) Tryd.func4 (by kernel_rfl)
    (of_decide_eq_true (by kernel_rfl)) (by unfold Func.isWrapper; first | (rw [if_pos (by decide +kernel)]; kernel_rfl) | (rw [if_neg (by decide +kernel)]; exact ⟨rfl, rfl⟩))
    (fun os started H enc _ => machBack_lifted os started H enc)

theorem machBack_card : Rows.MachBackCardSaid :=
  Claim7.holds_tied_plain_at .later [] [.data, .data, .data, .sentinel, .sentinel] true (true, "1e2454fd483997db6d784a1f287ddb970075adbca80d17a4570481d364ee793f") true
    machBack_holds (fun _ h => by cases h) (by kernel_rfl) (fun _ h => by cases h) machBack_row_tie rfl ⟨rfl, rfl⟩ (by kernel_rfl) rfl
    (fun f fn hf hfn => by
      obtain rfl : f = 4 := Option.some.inj ((show Tryd.prog.funcNamed "intarsia/intarsialaw05.MachBack" = some 4 by kernel_rfl).symm.trans hf) |>.symm
      obtain rfl : fn = Tryd.f4 := (Option.some.inj (Tryd.func4.symm.trans hfn)).symm
      exact ⟨by kernel_rfl, fun j t ht => by
        rw [Tryd.params4] at ht
        have hm : t ∈ [24, 9] := by simpa using Array.mem_of_getElem? ht
        have hall : ([24, 9].all fun u => !Tryd.prog.wantsStandIn u) = true := by kernel_rfl
        exact (show Tryd.prog.wantsStandIn t = false by simpa using List.all_eq_true.1 hall t hm)⟩)
    (by kernel_rfl)
#print axioms machBack_card
end Go.Proofs.YtfpjdgobannneaaDoor
