
/-
  A machine's text, got of a cursor: the program's way and the document's way end alike. Plain laws.
-/
import Derived.Test.YtfpjdgobannneaaDoorNamed
import Derived.Test.YtfpjdgobannneaaDoorCurB
namespace Go.Proofs.YtfpjdgobannneaaDoor
open Go Go.RowKit

/-- a name that must be next -/
def Cur.must (c : Cur) (s : ByteArray) : Cur := if c.is (.name s) = true then c.over else c.fail 7

/-- the program: numbers that are next -/
def regsP : Nat → Cur → List Int × Cur
  | 0, c => ([], c)
  | f + 1, c => if c.more = true ∧ c.ends = false ∧ c.peek = ⟨#[]⟩ then ((c.num 0 64).1 :: (regsP f (c.num 0 64).2).1, (regsP f (c.num 0 64).2).2) else ([], c)

def Cur.headNum (c : Cur) : Bool := match c.items with
  | x :: _ => x.has.asNum.2
  | [] => false

/-- the document: numbers that are next -/
def regsR : Nat → Cur → List Int × Cur
  | 0, c => ([], c)
  | f + 1, c => if c.more = true ∧ c.headNum = true then ((c.num 0 64).1 :: (regsR f (c.num 0 64).2).1, (regsR f (c.num 0 64).2).2) else ([], c)

/-- an item as a text has one: a name is not empty -/
def Item.Ok (x : Item) : Prop := ∀ s, x.has = .name s → s ≠ ⟨#[]⟩

def Cur.Ok (c : Cur) : Prop := ∀ x ∈ c.items, x.Ok

theorem Cur.Ok.over {c : Cur} (h : c.Ok) : c.over.Ok := fun x hx => h x (List.mem_of_mem_tail hx)

theorem Cur.Ok.fail {c : Cur} (h : c.Ok) (e : Int) : (c.fail e).Ok := by
  unfold Cur.fail
  split
  · exact h
  · exact h

theorem Cur.Ok.must {c : Cur} (h : c.Ok) (s : ByteArray) : (c.must s).Ok := by
  unfold Cur.must
  split
  · exact h.over
  · exact h.fail 7

theorem Cur.Ok.num {c : Cur} (h : c.Ok) (a b : Int) : (c.num a b).2.Ok := by
  unfold Cur.num
  split
  · split
    · exact h.fail 7
    · split
      · split
        · exact h.fail 3
        · exact h.over
      · exact h.fail 7
  · exact h

/-- the cursor that the program ends with, and the document's: the same; or both are to be broken by what is next -/
def Near (p r : Cur) : Prop := p = r ∨ (r.wrong = 0 ∧ (∃ x t s, r.items = x :: t ∧ x.has = .mark s) ∧ p = r.fail 7)

theorem fail_items (c : Cur) (e : Int) : (c.fail e).items = c.items := by
  unfold Cur.fail
  split <;> rfl

theorem regsP_more (c : Cur) (h : c.more = false) (f : Nat) : regsP f c = ([], c) := by
  cases f with
  | zero => rfl
  | succ f => rw [regsP, if_neg (by rintro ⟨q, _⟩; rw [h] at q; cases q)]

theorem num_len (c : Cur) (hm : c.more = true) : (c.num 0 64).2.more = false ∨ ((c.num 0 64).2.wrong = 0 ∧ (c.num 0 64).2.items.length + 1 = c.items.length) := by
  unfold Cur.more at hm
  have hw : c.wrong = 0 := by
    cases hq : (c.wrong == 0) with
    | true => simpa using hq
    | false => rw [hq] at hm; cases hm
  have hf : ∀ e : Int, e ≠ 0 → (c.fail e).more = false := fun e he => broken_more (fail_broken c he)
  unfold Cur.num
  rw [if_pos hw]
  cases hi : c.items with
  | nil => exact Or.inl (hf 7 (by decide))
  | cons x t =>
    simp only
    split
    · split
      · exact Or.inl (hf 3 (by decide))
      · refine Or.inr ⟨hw, ?_⟩
        show c.items.tail.length + 1 = _
        rw [hi]
        rfl
    · exact Or.inl (hf 7 (by decide))

/-- both ways over numbers -/
theorem regs_near : ∀ (n : Nat) (c : Cur) (f g : Nat), c.Ok → c.items.length ≤ n → n < f → n < g →
    Near (regsP f c).2 (regsR g c).2 ∧ ((regsR g c).2.wrong = 0 → (regsP f c).2 = (regsR g c).2 → (regsP f c).1 = (regsR g c).1) := by
  intro n
  induction n with
  | zero =>
    intro c f g hk hn hf hg
    have hi : c.items = [] := List.eq_nil_of_length_eq_zero (Nat.le_zero.1 hn)
    have hm : c.more = false := by unfold Cur.more; rw [hi]; simp
    obtain ⟨g, rfl⟩ : ∃ j, g = j + 1 := ⟨g - 1, by omega⟩
    rw [regsP_more c hm, regsR, if_neg (by rintro ⟨q, _⟩; rw [hm] at q; cases q)]
    exact ⟨Or.inl rfl, fun _ _ => rfl⟩
  | succ n ih =>
    intro c f g hk hn hf hg
    obtain ⟨f, rfl⟩ : ∃ j, f = j + 1 := ⟨f - 1, by omega⟩
    obtain ⟨g, rfl⟩ : ∃ j, g = j + 1 := ⟨g - 1, by omega⟩
    by_cases hm : c.more = true
    · have hm' := hm
      unfold Cur.more at hm
      have hw : c.wrong = 0 := by
        cases hq : (c.wrong == 0) with
        | true => simpa using hq
        | false => rw [hq] at hm; cases hm
      cases hi : c.items with
      | nil => rw [hi] at hm; simp at hm
      | cons x t =>
        have hends : c.ends = x.has.eqb .stop := by
          unfold Cur.ends
          rw [hm', hi]
          rfl
        have hpeek : c.peek = x.has.asName.1 := by
          unfold Cur.peek
          rw [if_pos hw, hi]
        have hhead : c.headNum = x.has.asNum.2 := by
          unfold Cur.headNum
          rw [hi]
        cases hx : x.has with
        | name s =>
          have hne := hk x (by rw [hi]; simp) s hx
          rw [regsP, if_neg (by rintro ⟨_, _, q⟩; rw [hpeek, hx] at q; exact hne q), regsR, if_neg (by rintro ⟨_, q⟩; rw [hhead, hx] at q; cases q)]
          exact ⟨Or.inl rfl, fun _ _ => rfl⟩
        | stop =>
          rw [regsP, if_neg (by rintro ⟨_, q, _⟩; rw [hends, hx] at q; cases q), regsR, if_neg (by rintro ⟨_, q⟩; rw [hhead, hx] at q; cases q)]
          exact ⟨Or.inl rfl, fun _ _ => rfl⟩
        | num v =>
          rw [regsP, if_pos ⟨hm', by rw [hends, hx]; rfl, by rw [hpeek, hx]; rfl⟩, regsR, if_pos ⟨hm', by rw [hhead, hx]; rfl⟩]
          rcases num_len c hm' with hmf | ⟨_, hl⟩
          · rw [regsP_more _ hmf]
            have hr : regsR g (c.num 0 64).2 = ([], (c.num 0 64).2) := by
              cases g with
              | zero => rfl
              | succ g => rw [regsR, if_neg (by rintro ⟨q, _⟩; rw [hmf] at q; cases q)]
            rw [hr]
            exact ⟨Or.inl rfl, fun _ _ => rfl⟩
          · obtain ⟨h1, h2⟩ := ih (c.num 0 64).2 f g (hk.num _ _) (by omega) (by omega) (by omega)
            exact ⟨h1, fun q1 q2 => by rw [h2 q1 q2]⟩
        | mark s =>
          have hnum : c.num 0 64 = (0, c.fail 7) := by
            unfold Cur.num
            rw [if_pos hw, hi]
            simp only [hx]
            rfl
          rw [regsP, if_pos ⟨hm', by rw [hends, hx]; rfl, by rw [hpeek, hx]; rfl⟩, regsR, if_neg (by rintro ⟨_, q⟩; rw [hhead, hx] at q; cases q), hnum, regsP_more _ (broken_more (fail_broken c (by decide)))]
          refine ⟨Or.inr ⟨hw, ⟨x, t, s, hi, hx⟩, rfl⟩, fun _ q => ?_⟩
          have h7 : (c.fail 7).wrong = c.wrong := congrArg Cur.wrong q
          exact absurd (h7.trans hw) (fail_broken c (by decide))
    · have hmf : c.more = false := by simpa using hm
      rw [regsP_more c hmf, regsR, if_neg (by rintro ⟨q, _⟩; exact hm q)]
      exact ⟨Or.inl rfl, fun _ _ => rfl⟩

theorem must_broken {c : Cur} (h : c.wrong ≠ 0) (s : ByteArray) : c.must s = c := by
  unfold Cur.must
  rw [broken_is h, if_neg (by decide), broken_fail h]

/-- a name that must be next makes them the same -/
theorem near_must {p r : Cur} (h : Near p r) (s : ByteArray) : p.must s = r.must s := by
  rcases h with rfl | ⟨hw, ⟨x, t, m, hi, hx⟩, rfl⟩
  · rfl
  · rw [must_broken (fail_broken r (by decide))]
    unfold Cur.must
    rw [if_neg]
    unfold Cur.is
    rw [hi]
    simp only [hx]
    intro q
    have : ((Has.mark m).eqb (.name s)) = false := rfl
    rw [this, Bool.and_false] at q
    cases q

theorem near_err {p r : Cur} (h : Near p r) : p.err.2.2 = r.err.2.2 := by
  rcases h with rfl | ⟨hw, ⟨x, t, m, hi, hx⟩, rfl⟩
  · rfl
  · have h7 : (r.fail 7).wrong = 7 := by
      unfold Cur.fail
      rw [if_pos ⟨hw, by decide⟩]
    rw [broken_err (by rw [h7]; decide), h7]
    unfold Cur.err
    rw [if_pos hw, hi]
    rfl

/-- a machine -/
structure Mch where
  regs : Int
  args : List Int
  ret : Int
  saved : List Int

def MM : ByteArray := ⟨#[109, 97, 99, 104, 105, 110, 101]⟩
def MA : ByteArray := ⟨#[97, 114, 103, 115]⟩
def MR : ByteArray := ⟨#[114, 101, 116]⟩
def MS : ByteArray := ⟨#[115, 97, 118, 101, 100]⟩

/-- a text's machine, and how the cursor ends, by a way over numbers -/
def parseBy (regs : Cur → List Int × Cur) (c0 : Cur) : Mch × Cur :=
  (⟨((c0.must MM).num 0 64).1, (regs (((c0.must MM).num 0 64).2.must MA)).1, (((regs (((c0.must MM).num 0 64).2.must MA)).2.must MR).num 0 64).1, (regs ((((regs (((c0.must MM).num 0 64).2.must MA)).2.must MR).num 0 64).2.must MS)).1⟩,
   (regs ((((regs (((c0.must MM).num 0 64).2.must MA)).2.must MR).num 0 64).2.must MS)).2)

theorem must_len (c : Cur) (s : ByteArray) : (c.must s).items.length ≤ c.items.length := by
  unfold Cur.must
  split
  · show c.items.tail.length ≤ _
    rw [List.length_tail]
    omega
  · rw [fail_items]
    exact Nat.le_refl _

theorem num_le (c : Cur) (a b : Int) : (c.num a b).2.items.length ≤ c.items.length := by
  unfold Cur.num
  split
  · split
    · rw [fail_items]; rename_i h; rw [h]; exact Nat.le_refl _
    · rename_i h
      split
      · split
        · rw [fail_items, h]; exact Nat.le_refl _
        · show c.items.tail.length ≤ _
          rw [h]
          simp
      · rw [fail_items, h]; exact Nat.le_refl _
  · exact Nat.le_refl _

theorem num_broken {c : Cur} (h : c.wrong ≠ 0) (a b : Int) : (c.num a b).2 = c := by rw [broken_num h]

theorem regsR_broken {c : Cur} (h : c.wrong ≠ 0) (g : Nat) : regsR g c = ([], c) := by
  cases g with
  | zero => rfl
  | succ g => rw [regsR, if_neg (by rintro ⟨q, _⟩; rw [broken_more h] at q; cases q)]

theorem err_broken {c : Cur} (h : c.wrong ≠ 0) : c.err.2.2 ≠ 0 := by
  rw [broken_err h]
  exact h

/-- both ways end alike -/
theorem parse_near (c0 : Cur) (hk : c0.Ok) (f g : Nat) (hf : c0.items.length < f) (hg : c0.items.length < g) :
    (parseBy (regsP f) c0).2.err.2.2 = (parseBy (regsR g) c0).2.err.2.2 ∧ ((parseBy (regsR g) c0).2.err.2.2 = 0 → (parseBy (regsP f) c0).1 = (parseBy (regsR g) c0).1) := by
  have hd := ((hk.must MM).num 0 64).must MA
  have ld : (((c0.must MM).num 0 64).2.must MA).items.length ≤ c0.items.length := Nat.le_trans (must_len _ _) (Nat.le_trans (num_le _ _ _) (must_len _ _))
  obtain ⟨n1, v1⟩ := regs_near c0.items.length (((c0.must MM).num 0 64).2.must MA) f g hd ld hf hg
  have lr : ∀ (g : Nat) (c : Cur), (regsR g c).2.items.length ≤ c.items.length := by
    intro g
    induction g with
    | zero => intro c; exact Nat.le_refl _
    | succ g ih =>
      intro c
      rw [regsR]
      split
      · exact Nat.le_trans (ih _) (num_le _ _ _)
      · exact Nat.le_refl _
  have okr : ∀ (g : Nat) (c : Cur), c.Ok → (regsR g c).2.Ok := by
    intro g
    induction g with
    | zero => intro c h; exact h
    | succ g ih =>
      intro c h
      rw [regsR]
      split
      · exact ih _ (h.num _ _)
      · exact h
  have hm := near_must n1 MR
  unfold parseBy
  simp only
  rw [hm]
  generalize hr1 : regsR g (((c0.must MM).num 0 64).2.must MA) = R1 at *
  have okr1 : R1.2.Ok := by rw [← hr1]; exact okr g _ hd
  have lr1 : R1.2.items.length ≤ c0.items.length := by rw [← hr1]; exact Nat.le_trans (lr g _) ld
  obtain ⟨n2, v2⟩ := regs_near c0.items.length (((R1.2.must MR).num 0 64).2.must MS) f g (((okr1.must MR).num 0 64).must MS) (Nat.le_trans (must_len _ _) (Nat.le_trans (num_le _ _ _) (Nat.le_trans (must_len _ _) lr1))) hf hg
  refine ⟨near_err n2, fun he => ?_⟩
  have hw1 : (R1.2.must MR).wrong = 0 := by
    rcases Decidable.em ((R1.2.must MR).wrong = 0) with q | q
    · exact q
    · exfalso
      have e1 : ((R1.2.must MR).num 0 64).2.must MS = R1.2.must MR := by rw [num_broken q, must_broken q]
      rw [e1, regsR_broken q] at he
      exact err_broken q he
  have e1 : (regsP f (((c0.must MM).num 0 64).2.must MA)).2 = R1.2 := by
    rcases n1 with q | ⟨hw, ⟨x, t, m, hi, hx⟩, q⟩
    · exact q
    · exfalso
      have : R1.2.must MR = R1.2.fail 7 := by
        rw [← hm, q, must_broken (fail_broken _ (by decide))]
      rw [this] at hw1
      exact fail_broken R1.2 (by decide) hw1
  have hwr : R1.2.wrong = 0 := by
    rcases Decidable.em (R1.2.wrong = 0) with q | q
    · exact q
    · rw [must_broken q] at hw1
      exact hw1
  have e2 : (regsP f (((R1.2.must MR).num 0 64).2.must MS)).2 = (regsR g (((R1.2.must MR).num 0 64).2.must MS)).2 := by
    rcases n2 with q | ⟨hw, ⟨x, t, m, hi, hx⟩, q⟩
    · exact q
    · exfalso
      unfold Cur.err at he
      rw [if_pos hw, hi] at he
      simp at he
  have hw2 : (regsR g (((R1.2.must MR).num 0 64).2.must MS)).2.wrong = 0 := by
    rcases Decidable.em ((regsR g (((R1.2.must MR).num 0 64).2.must MS)).2.wrong = 0) with q | q
    · exact q
    · exact absurd he (err_broken q)
  rw [v1 hwr e1, v2 hw2 e2]

/-- the items of a text's cursor -/
theorem overCur_ok (s : ByteArray) : (overCur s).Ok := by
  have key : ∀ (l : List Wd), (∀ x ∈ l, x.kind = 1 → 0 < x.text.size) → ∀ (o : Bool) (p : Option Item), (∀ z, p = some z → z.Ok) → ∀ y ∈ goIt o p (l.map Wd.item), y.Ok := by
    intro l
    induction l with
    | nil => intro _ o p _ y hy; cases hy
    | cons x r ih =>
      intro h o p hp y hy
      have hx : x.item.Ok := by
        intro t ht
        obtain ⟨kind, text, n, line, col⟩ := x
        have h1 := h ⟨kind, text, n, line, col⟩ (by simp)
        simp only at h1
        by_cases k1 : kind = 1
        · subst k1
          have : text = t := by
            have : Has.name text = Has.name t := ht
            injection this
          subst this
          intro e
          have := h1 rfl
          rw [e] at this
          cases this
        · exfalso
          have : (Wd.item ⟨kind, text, n, line, col⟩).has.asName.2 = true := by rw [ht]; rfl
          unfold Wd.item Wd.has at this
          simp only at this
          split at this
          · exact k1 (by assumption)
          · split at this
            · cases this
            · split at this <;> cases this
      have hr := ih (fun z hz => h z (by simp [hz]))
      rw [List.map_cons, goIt] at hy
      split at hy
      · split at hy
        · refine hr o _ ?_ y hy
          intro z hz
          cases p with
          | none => simp at hz; subst hz; exact hx
          | some q => simp at hz; subst hz; exact hp _ rfl
        · exact hr o p hp y hy
      · rcases List.mem_append.1 hy with q | q
        · cases p with
          | none => cases q
          | some z => simp at q; subst q; exact hp _ rfl
        · rcases List.mem_cons.1 q with q | q
          · subst q; exact hx
          · exact hr true none (fun z hz => by cases hz) y q
  unfold overCur
  split
  · intro y hy
    have hy' : y ∈ overItems (wordRead s).1 := hy
    rw [overItems_go] at hy'
    exact key _ (wordRead_named s) false none (fun z hz => by cases hz) y hy'
  · intro y hy
    cases hy

end Go.Proofs.YtfpjdgobannneaaDoor
