
/-
  A text of tokens (names, numbers, signs), blanks between them, rows: what the reader tells of it. Plain laws.
-/
import Derived.Test.YtfpjdgobannneaaDoorRuneE
import Derived.Test.YtfpjdgobannneaaDoorBytesA
import Derived.Lib.ItoaNum
import Derived.Lib.ItoaLen
import Derived.Lib.AtoiAll
import Derived.Test.YtfpjdgobannneaaDoorMachK
namespace Go.Proofs.YtfpjdgobannneaaDoor
open Go Go.RowKit Go.Lib

/-! ### numerals -/

theorem pu_append : ∀ (l : List UInt8) (acc v : Nat), parseUint10 acc l = .ok v → ∀ m, parseUint10 acc (l ++ m) = parseUint10 v m
  | [], acc, v, h, m => by
    simp only [parseUint10] at h
    injection h with h
    subst h
    rfl
  | c :: r, acc, v, h, m => by
    simp only [parseUint10, List.cons_append] at h ⊢
    split at h
    · rename_i h1
      rw [if_pos h1]
      split at h
      · cases h
      · rename_i h2
        rw [if_neg h2]
        split at h
        · cases h
        · rename_i h3
          rw [if_neg h3]
          exact pu_append r _ v h m
    · cases h

theorem digit_nat {d : Nat} (h : d < 10) : (UInt8.ofNat (48 + d)).toNat = 48 + d := by
  rw [UInt8.toNat_ofNat']
  omega

theorem pu_digits (u : Nat) (hu : u < 9223372036854775808) : parseUint10 0 (decDigits u) = .ok u := by
  induction u using Nat.strongRecOn with
  | _ u ih =>
    by_cases h : u < 10
    · rw [decDigits, dif_pos h]
      simp only [parseUint10, digit_nat h]
      rw [if_pos (by omega), if_neg (by omega), if_neg (by omega)]
      congr 1
      omega
    · rw [decDigits, dif_neg h, pu_append _ _ _ (ih (u / 10) (by omega) (by omega))]
      simp only [parseUint10, digit_nat (Nat.mod_lt u (by decide : 10 > 0))]
      rw [if_pos (by omega), if_neg (by omega), if_neg (by omega)]
      congr 1
      omega

theorem digits_ne (u : Nat) : ∃ d ds, decDigits u = d :: ds := by
  by_cases h : u < 10
  · exact ⟨_, _, by rw [decDigits, dif_pos h]⟩
  · have e : decDigits u = decDigits (u / 10) ++ [UInt8.ofNat (48 + u % 10)] := by rw [decDigits, dif_neg h]
    cases hq : decDigits (u / 10) with
    | nil => exact ⟨_, _, by rw [e, hq]; rfl⟩
    | cons a r => exact ⟨_, _, by rw [e, hq]; rfl⟩

theorem digits_are (u : Nat) : ∀ b ∈ decDigits u, 48 ≤ b.toNat ∧ b.toNat ≤ 57 := by
  induction u using Nat.strongRecOn with
  | _ u ih =>
    intro b hb
    by_cases h : u < 10
    · rw [decDigits, dif_pos h] at hb
      have e := List.mem_singleton.1 hb
      subst e
      rw [digit_nat h]
      omega
    · rw [decDigits, dif_neg h] at hb
      rcases List.mem_append.1 hb with q | q
      · exact ih (u / 10) (by omega) b q
      · have e := List.mem_singleton.1 q
        subst e
        rw [digit_nat (Nat.mod_lt u (by decide : 10 > 0))]
        omega

theorem atoi_itoa (n : Int) (h0 : -9223372036854775808 < n) (h1 : n < 9223372036854775808) : atoiAll (itoa n) = .ok n := by
  unfold itoa
  by_cases hn : n < 0
  · rw [if_pos hn]
    obtain ⟨d, ds, hd⟩ := digits_ne n.natAbs
    unfold atoiAll
    simp only
    rw [if_pos (by right; decide)]
    unfold parseMag
    rw [if_neg (by rw [hd]; simp), pu_digits _ (by omega)]
    simp only
    rw [if_neg (by simp), if_neg (by omega), if_pos (by decide)]
    congr 1
    omega
  · rw [if_neg hn]
    obtain ⟨d, ds, hd⟩ := digits_ne n.toNat
    have hr := digits_are n.toNat d (by rw [hd]; simp)
    rw [hd]
    unfold atoiAll
    simp only
    rw [if_neg (by omega)]
    unfold parseMag
    rw [if_neg (by simp), ← hd, pu_digits _ (by omega)]
    simp only
    rw [if_neg (by omega), if_neg (by omega), if_neg (by omega)]
    congr 1
    omega

/-! ### bytes that are runes -/

/-- the runes of such bytes -/
def rn (l : List UInt8) : List (Option Int) := l.map fun b => some (b.toNat : Int)

def ints (l : List UInt8) : List Int := l.map fun b => (b.toNat : Int)

theorem rn_ints (l : List UInt8) : rn l = (ints l).map some := by unfold rn ints; rw [List.map_map]; rfl

theorem rn_append (l m : List UInt8) : rn (l ++ m) = rn l ++ rn m := List.map_append

theorem runesU_rn (l : List UInt8) (h : ∀ b ∈ l, b.toNat < 128) : runesU l = rn l := by
  induction l with
  | nil => rfl
  | cons b r ih =>
    rw [runesU_ascii r (h b (by simp)), ih (fun x hx => h x (by simp [hx]))]
    rfl

theorem encode_low (b : UInt8) (h : b.toNat < 128) : (Utf8.encode (b.toNat : Int)).data.toList = [b] := by
  have hv : Utf8.valid (b.toNat : Int) = true := by
    unfold Utf8.valid
    simp
    omega
  unfold Utf8.encode
  simp only [hv, if_true, Int.toNat_natCast]
  rw [if_pos (by omega)]
  simp

theorem runesBytes_low (l : List UInt8) (h : ∀ b ∈ l, b.toNat < 128) : runesBytes (ints l) = ⟨l.toArray⟩ := by
  have key : (runesBytes (ints l)).data.toList = l := by
    induction l with
    | nil => rfl
    | cons b r ih =>
      show (runesBytes ((b.toNat : Int) :: ints r)).data.toList = _
      rw [runesBytes_cons, encode_low b (h b (by simp)), ih (fun x hx => h x (by simp [hx]))]
      rfl
  generalize runesBytes (ints l) = s at key
  obtain ⟨s⟩ := s
  congr 1
  rw [← key]

/-! ### tokens -/

inductive Tok where
  | name (bs : List UInt8)
  | num (n : Int)

def Tok.bytes : Tok → List UInt8
  | .name bs => bs
  | .num n => itoa n

def Tok.Ok : Tok → Prop
  | .name bs => bs.length ≤ 16 ∧ (∀ b ∈ bs, b.toNat < 128) ∧ ∃ a r, bs = a :: r ∧ letterB (a.toNat : Int) = true ∧ ∀ x ∈ r, letterB (x.toNat : Int) = true ∨ digitB (x.toNat : Int) = true
  | .num n => -1099511627776 ≤ n ∧ n ≤ 1099511627776

def Tok.has : Tok → Has
  | .name bs => .name ⟨bs.toArray⟩
  | .num n => .num n

/-- what may follow a token -/
def Brk (M : List (Option Int)) : Prop := ∀ x t, M = some x :: t → letterB x = false ∧ digitB x = false

theorem digitB_of {b : UInt8} (h : 48 ≤ b.toNat ∧ b.toNat ≤ 57) : digitB (b.toNat : Int) = true := by
  unfold digitB
  simp
  omega

theorem itoa_low (n : Int) : ∀ b ∈ itoa n, b.toNat < 128 := by
  intro b hb
  unfold itoa at hb
  split at hb
  · rcases List.mem_cons.1 hb with rfl | q
    · decide
    · have := digits_are _ b q; omega
  · have := digits_are _ b hb; omega

theorem Tok.low {t : Tok} (h : t.Ok) : ∀ b ∈ t.bytes, b.toNat < 128 := by
  cases t with
  | name bs => exact h.2.1
  | num n => exact itoa_low n

theorem numOf_itoa (n : Int) (h : -9223372036854775808 < n ∧ n < 9223372036854775808) : numOf (runesBytes (ints (itoa n))) = (n, false) := by
  rw [runesBytes_low _ (itoa_low n)]
  have e : (ByteArray.mk (itoa n).toArray).data.toList = itoa n := List.toList_toArray
  unfold numOf
  rw [e, atoi_itoa n h.1 h.2]

theorem tok_read {st : Rd} {ws : List Wd} {l c : Int} (h : Rest st ws l c) (t : Tok) (ht : t.Ok) {M : List (Option Int)} (hM : Brk M) :
    ∃ st' w' c', Rest st' (ws ++ [w']) l c' ∧ w'.has = t.has ∧ endR (rn t.bytes ++ M) st = endR M st' := by
  cases t with
  | name bs =>
    obtain ⟨hl, hlow, a, r, rfl, ha, hr⟩ := ht
    obtain ⟨_, h2⟩ := h.name ha (ns := ints r) (by
      intro x hx
      obtain ⟨b, hb, rfl⟩ := List.mem_map.1 hx
      exact hr b hb) hM
    obtain ⟨st', hs, he⟩ := h2 (by unfold ints; rw [List.length_map]; simp at hl; omega)
    refine ⟨st', _, _, hs, ?_, ?_⟩
    · have e : runesBytes ((a.toNat : Int) :: ints r) = ⟨(a :: r).toArray⟩ := runesBytes_low (a :: r) hlow
      rw [e]
      rfl
    · rw [rn_ints]
      exact he
  | num n =>
    have hn := ht
    obtain ⟨n0, n1⟩ := hn
    have hnum : numOf (runesBytes (ints (itoa n))) = (n, false) := by
      exact numOf_itoa n ⟨by omega, by omega⟩
    have hform : (∃ d ds, ints (itoa n) = d :: ds ∧ ∀ x ∈ d :: ds, digitB x = true) ∨ (∃ d ds, ints (itoa n) = 45 :: d :: ds ∧ ∀ x ∈ d :: ds, digitB x = true) := by
      have hd : ∀ u, ∃ d ds, ints (decDigits u) = d :: ds ∧ ∀ x ∈ d :: ds, digitB x = true := by
        intro u
        obtain ⟨d, ds, e⟩ := digits_ne u
        have ha := digits_are u
        rw [e] at ha ⊢
        refine ⟨_, _, rfl, fun x hx => ?_⟩
        obtain ⟨b, hb, rfl⟩ := List.mem_map.1 (show x ∈ ints (d :: ds) from hx)
        exact digitB_of (ha b hb)
      unfold itoa
      by_cases hneg : n < 0
      · rw [if_pos hneg]
        obtain ⟨d, ds, e, hx⟩ := hd n.natAbs
        exact Or.inr ⟨d, ds, by show (45 : Int) :: ints (decDigits n.natAbs) = _; rw [e], hx⟩
      · rw [if_neg hneg]
        exact Or.inl (hd n.toNat)
    obtain ⟨_, _, h3⟩ := h.number hform (M := M) (fun x t e => (hM x t e).2)
    obtain ⟨st', hs, he⟩ := h3 (by unfold NumBad; rw [hnum]; simp only; rintro (q | q | q); cases q; omega; omega) (fun x t e => (hM x t e).1)
    refine ⟨st', _, _, hs, ?_, ?_⟩
    · rw [hnum]
      rfl
    · rw [rn_ints]
      exact he

/-- tokens, a blank ahead of each -/
def toksBytes (ts : List Tok) : List UInt8 := ts.flatMap fun t => 32 :: t.bytes

theorem brk_blank (M : List (Option Int)) : Brk (some 32 :: M) := by
  intro x t e
  simp only [List.cons.injEq, Option.some.injEq] at e
  rw [← e.1]
  decide

theorem brk_end (M : List (Option Int)) : Brk (some 10 :: M) := by
  intro x t e
  simp only [List.cons.injEq, Option.some.injEq] at e
  rw [← e.1]
  decide

theorem toks_brk (ts : List Tok) {M : List (Option Int)} (hM : Brk M) : Brk (rn (toksBytes ts) ++ M) := by
  cases ts with
  | nil => exact hM
  | cons t r => exact brk_blank _

theorem toks_read : ∀ (ts : List Tok) {st : Rd} {ws : List Wd} {l c : Int}, Rest st ws l c → (∀ t ∈ ts, t.Ok) → ∀ {M : List (Option Int)}, Brk M →
    ∃ st' ws' c', Rest st' (ws ++ ws') l c' ∧ ws'.map Wd.has = ts.map Tok.has ∧ endR (rn (toksBytes ts) ++ M) st = endR M st'
  | [], st, ws, l, c, h, _, M, _ => ⟨st, [], c, by rw [List.append_nil]; exact h, rfl, rfl⟩
  | t :: r, st, ws, l, c, h, hk, M, hM => by
    obtain ⟨st1, h1, e1⟩ := h.blank (a := 32) (Or.inl rfl) (rn t.bytes ++ (rn (toksBytes r) ++ M))
    obtain ⟨st2, w', c2, h2, hw, e2⟩ := tok_read h1 t (hk t (by simp)) (toks_brk r hM)
    obtain ⟨st3, ws3, c3, h3, hw3, e3⟩ := toks_read r h2 (fun x hx => hk x (by simp [hx])) hM
    refine ⟨st3, w' :: ws3, c3, by rw [List.append_assoc] at h3; exact h3, by rw [List.map_cons, List.map_cons, hw, hw3], ?_⟩
    rw [← e3, ← e2, ← e1]
    congr 1
    show rn (32 :: t.bytes ++ toksBytes r) ++ M = _
    rw [rn_append, List.append_assoc]
    rfl

end Go.Proofs.YtfpjdgobannneaaDoor

/-
  A machine's text is read back: plain laws.
-/
namespace Go.Proofs.YtfpjdgobannneaaDoor
open Go Go.RowKit Go.Lib

/-! ### the cursor over a text of tokens -/

theorem goH_plain : ∀ (L : List Has) (o : Bool), (∀ h ∈ L, h.isStop = false) → goH o false L = L
  | [], _, _ => rfl
  | h :: r, o, hs => by
    rw [goH, if_neg (by rw [hs h (by simp)]; decide), goH_plain r true (fun x hx => hs x (by simp [hx]))]
    rfl

theorem tok_nostop (t : Tok) : t.has.isStop = false := by cases t <;> rfl

/-- a text: a token, more tokens, an end -/
def tokText (t : Tok) (ts : List Tok) : ByteArray := ⟨(t.bytes ++ toksBytes ts ++ [10]).toArray⟩

theorem toks_low : ∀ (ts : List Tok), (∀ t ∈ ts, t.Ok) → ∀ b ∈ toksBytes ts, b.toNat < 128
  | [], _, b, hb => by cases hb
  | t :: r, h, b, hb => by
    rcases List.mem_append.1 (show b ∈ (32 :: t.bytes) ++ toksBytes r from hb) with q | q
    · rcases List.mem_cons.1 q with rfl | q
      · decide
      · exact Tok.low (h t (by simp)) b q
    · exact toks_low r (fun x hx => h x (by simp [hx])) b q

theorem init_at_rest : Rest Rd.init [] 1 1 := ⟨rfl, rfl, rfl, rfl, rfl⟩

theorem tokText_read (t : Tok) (ts : List Tok) (ht : t.Ok) (hts : ∀ x ∈ ts, x.Ok) : ∃ ws, wordRead (tokText t ts) = (ws, 0, 0, 0) ∧ hasOf ws = t.has :: ts.map Tok.has ++ [.stop] := by
  have hlow : ∀ b ∈ t.bytes ++ toksBytes ts ++ [10], b.toNat < 128 := by
    intro b hb
    rcases List.mem_append.1 hb with q | q
    · rcases List.mem_append.1 q with q | q
      · exact Tok.low ht b q
      · exact toks_low ts hts b q
    · have e := List.mem_singleton.1 q
      subst e
      decide
  obtain ⟨st1, w1, c1, h1, hw1, e1⟩ := tok_read init_at_rest t ht (toks_brk ts (brk_end []))
  obtain ⟨st2, ws2, c2, h2, hw2, e2⟩ := toks_read ts h1 hts (brk_end [])
  obtain ⟨st3, h3, e3⟩ := h2.stop []
  refine ⟨[] ++ [w1] ++ ws2 ++ [⟨4, ⟨#[]⟩, 0, 1, c2⟩], ?_, ?_⟩
  · rw [wordRead_end]
    have e0 : (tokText t ts).data.toList = t.bytes ++ toksBytes ts ++ [10] := List.toList_toArray
    rw [e0, runesU_rn _ hlow, rn_append, rn_append, List.append_assoc]
    show endR (rn t.bytes ++ (rn (toksBytes ts) ++ [some 10])) Rd.init = _
    rw [e1, e2, e3, h3.done]
  · unfold hasOf
    rw [List.map_append, List.map_append, List.map_append, hw2]
    simp [hw1]
    rfl

/-- a cursor that has a row of things ahead -/
def CH (c : Cur) (hs : List Has) : Prop := c.wrong = 0 ∧ c.items.map (·.has) = hs

theorem tokText_cur (t : Tok) (ts : List Tok) (ht : t.Ok) (hts : ∀ x ∈ ts, x.Ok) : CH (overCur (tokText t ts)) (t.has :: ts.map Tok.has) := by
  obtain ⟨ws, hr, hh⟩ := tokText_read t ts ht hts
  unfold overCur
  rw [hr, if_pos (by rfl)]
  refine ⟨rfl, ?_⟩
  show (overItems ws).map (·.has) = _
  rw [overItems_go, goIt_goH _ _ _ (by simp) (by simp)]
  have e : (ws.map Wd.item).map (·.has) = hasOf ws := by
    unfold hasOf
    rw [List.map_map]
    rfl
  rw [e, hh, goH_append]
  show goH false false (t.has :: ts.map Tok.has) ++ _ = _
  rw [goH_plain _ _ (by
    intro h hm
    rcases List.mem_cons.1 hm with rfl | q
    · exact tok_nostop t
    · obtain ⟨x, _, rfl⟩ := List.mem_map.1 q
      exact tok_nostop x)]
  have e2 : ∀ o p, goH o p [Has.stop] = [] := fun o p => rfl
  rw [e2, List.append_nil]

section
variable {c : Cur} {hs : List Has}

theorem CH.cons {h : Has} (hc : CH c (h :: hs)) : ∃ x r, c.items = x :: r ∧ x.has = h ∧ r.map (·.has) = hs := by
  obtain ⟨_, h2⟩ := hc
  cases hi : c.items with
  | nil => rw [hi] at h2; cases h2
  | cons x r =>
    rw [hi] at h2
    simp only [List.map_cons, List.cons.injEq] at h2
    exact ⟨x, r, rfl, h2.1, h2.2⟩

theorem CH.nil (hc : CH c []) : c.items = [] := by
  cases hi : c.items with
  | nil => rfl
  | cons x r => have := hc.2; rw [hi] at this; cases this

theorem CH.over {h : Has} (hc : CH c (h :: hs)) : CH c.over hs := by
  obtain ⟨x, r, hi, _, hr⟩ := hc.cons
  refine ⟨hc.1, ?_⟩
  show c.items.tail.map (·.has) = hs
  rw [hi]
  exact hr

theorem CH.must {s : ByteArray} (hc : CH c (.name s :: hs)) : CH (c.must s) hs := by
  have hi2 : c.is (.name s) = true := by
    obtain ⟨x, r, hi, hx, _⟩ := hc.cons
    unfold Cur.is
    rw [hi, hc.1]
    simp only [hx]
    show ((0 : Int) == 0 && (Has.name s).eqb (.name s)) = true
    have : (Has.name s).eqb (.name s) = true := by
      show (s == s) = true
      rw [bytes_beq]; simp
    rw [this]
    rfl
  unfold Cur.must
  rw [if_pos hi2]
  exact hc.over

theorem CH.num {n a b : Int} (hc : CH c (.num n :: hs)) (h1 : a ≤ n) (h2 : n ≤ b) : (c.num a b).1 = n ∧ CH (c.num a b).2 hs := by
  obtain ⟨x, r, hi, hx, _⟩ := hc.cons
  have e : c.num a b = (n, c.over) := by
    unfold Cur.num
    rw [if_pos hc.1, hi]
    simp only [hx]
    show (if true = true then (if n < a ∨ b < n then (0, c.fail 3) else (n, c.over)) else (0, c.fail 7)) = _
    rw [if_pos rfl, if_neg (by omega)]
  rw [e]
  exact ⟨rfl, hc.over⟩

theorem CH.stopped (hc : CH c hs) (h : hs = [] ∨ ∃ s r, hs = .name s :: r ∧ s ≠ ⟨#[]⟩) : ¬ (c.more = true ∧ c.ends = false ∧ c.peek = ⟨#[]⟩) := by
  rcases h with rfl | ⟨s, r, rfl, hs⟩
  · rintro ⟨hm, _⟩
    unfold Cur.more at hm
    rw [hc.nil] at hm
    simp at hm
  · rintro ⟨_, _, hp⟩
    obtain ⟨x, t, hi, hx, _⟩ := hc.cons
    unfold Cur.peek at hp
    rw [if_pos hc.1, hi] at hp
    simp only [hx] at hp
    exact hs hp

theorem CH.regs : ∀ (ns : List Int) {c : Cur} {hs : List Has} (f : Nat), CH c (ns.map Has.num ++ hs) → (∀ n ∈ ns, 0 ≤ n ∧ n ≤ 64) → (hs = [] ∨ ∃ s r, hs = .name s :: r ∧ s ≠ ⟨#[]⟩) → ns.length < f →
    (regsP f c).1 = ns ∧ CH (regsP f c).2 hs
  | [], c, hs, f, hc, _, hh, hf => by
    obtain ⟨f, rfl⟩ : ∃ j, f = j + 1 := ⟨f - 1, by omega⟩
    rw [regsP, if_neg (hc.stopped hh)]
    exact ⟨rfl, hc⟩
  | n :: ns, c, hs, f, hc, hn, hh, hf => by
    obtain ⟨f, rfl⟩ : ∃ j, f = j + 1 := ⟨f - 1, by omega⟩
    have hc' : CH c (.num n :: (ns.map Has.num ++ hs)) := hc
    obtain ⟨x, t, hi, hx, _⟩ := hc'.cons
    have hgo : c.more = true ∧ c.ends = false ∧ c.peek = ⟨#[]⟩ := by
      have hm : c.more = true := by unfold Cur.more; rw [hi, hc.1]; rfl
      refine ⟨hm, ?_, ?_⟩
      · unfold Cur.ends
        rw [hm, hi]
        simp only [hx]
        rfl
      · unfold Cur.peek
        rw [if_pos hc.1, hi]
        simp only [hx]
        rfl
    obtain ⟨e1, h1⟩ := hc'.num (hn n (by simp)).1 (hn n (by simp)).2
    obtain ⟨e2, h2⟩ := CH.regs ns f h1 (fun m hm => hn m (by simp [hm])) hh (by simp at hf; omega)
    rw [regsP, if_pos hgo]
    exact ⟨by rw [e1, e2], h2⟩

theorem CH.err (hc : CH c []) : c.err.2.2 = 0 := by
  unfold Cur.err
  rw [if_pos hc.1, hc.nil]
  rfl

end

/-! ### the machine's text -/

def Mch.toks (m : Mch) : List Tok := .num m.regs :: .name MA.data.toList :: (m.args.map Tok.num ++ (.name MR.data.toList :: .num m.ret :: .name MS.data.toList :: m.saved.map Tok.num))

/-- the text of a machine -/
def Mch.text (m : Mch) : ByteArray := tokText (.name MM.data.toList) m.toks

theorem mtok_ok {n : Int} (h : 0 ≤ n ∧ n ≤ 64) : (Tok.num n).Ok := ⟨by omega, by omega⟩

theorem mm_ok : (Tok.name MM.data.toList).Ok := ⟨by decide, by decide, 109, [97, 99, 104, 105, 110, 101], rfl, by decide, by decide⟩
theorem ma_ok : (Tok.name MA.data.toList).Ok := ⟨by decide, by decide, 97, [114, 103, 115], rfl, by decide, by decide⟩
theorem mr_ok : (Tok.name MR.data.toList).Ok := ⟨by decide, by decide, 114, [101, 116], rfl, by decide, by decide⟩
theorem ms_ok : (Tok.name MS.data.toList).Ok := ⟨by decide, by decide, 115, [97, 118, 101, 100], rfl, by decide, by decide⟩

theorem right_bounds {m : Mch} (h : RightM m) : (0 ≤ m.regs ∧ m.regs ≤ 64) ∧ (∀ n ∈ m.args, 0 ≤ n ∧ n ≤ 64) ∧ (0 ≤ m.ret ∧ m.ret ≤ 64) ∧ (∀ n ∈ m.saved, 0 ≤ n ∧ n ≤ 64) := by
  obtain ⟨h1, h2, h3, h4, h5, h6, h7⟩ := h
  refine ⟨by omega, fun n hn => ?_, ?_, fun n hn => ?_⟩
  · have := h6.1 n hn; omega
  · have := h7.1 m.ret (by simp); omega
  · have := h7.1 n (by simp [hn]); omega

theorem toks_ok {m : Mch} (h : RightM m) : ∀ t ∈ m.toks, t.Ok := by
  obtain ⟨h1, h2, h3, h4⟩ := right_bounds h
  intro t ht
  unfold Mch.toks at ht
  rcases List.mem_cons.1 ht with rfl | ht
  · exact mtok_ok h1
  rcases List.mem_cons.1 ht with rfl | ht
  · exact ma_ok
  rcases List.mem_append.1 ht with ht | ht
  · obtain ⟨n, hn, rfl⟩ := List.mem_map.1 ht
    exact mtok_ok (h2 n hn)
  rcases List.mem_cons.1 ht with rfl | ht
  · exact mr_ok
  rcases List.mem_cons.1 ht with rfl | ht
  · exact mtok_ok h3
  rcases List.mem_cons.1 ht with rfl | ht
  · exact ms_ok
  obtain ⟨n, hn, rfl⟩ := List.mem_map.1 ht
  exact mtok_ok (h4 n hn)

theorem toksBytes_len : ∀ (ts : List Tok) (k : Nat), (∀ t ∈ ts, t.bytes.length ≤ k) → (toksBytes ts).length ≤ ts.length * (k + 1)
  | [], _, _ => by simp [toksBytes]
  | t :: r, k, h => by
    have h1 := toksBytes_len r k (fun x hx => h x (by simp [hx]))
    have h2 := h t (by simp)
    show ((32 :: t.bytes) ++ toksBytes r).length ≤ _
    rw [List.length_append, List.length_cons, List.length_cons, Nat.add_mul]
    omega

theorem tok_len {t : Tok} (h : t.Ok) : t.bytes.length ≤ 21 := by
  cases t with
  | name bs => have := h.1; show bs.length ≤ 21; omega
  | num n => exact itoa_length_le n (by have := h.1; omega) (by have := h.2; omega)

theorem text_size {m : Mch} (h : RightM m) : m.text.size ≤ 2000 := by
  have h1 := toksBytes_len m.toks 21 (fun t ht => tok_len (toks_ok h t ht))
  have h2 : m.toks.length ≤ 77 := by
    obtain ⟨a, b, c, d, _⟩ := h
    unfold Mch.toks
    simp
    omega
  have h3 : m.text.size = MM.data.toList.length + (toksBytes m.toks).length + 1 := by
    show ((Tok.name MM.data.toList).bytes ++ toksBytes m.toks ++ [10]).toArray.size = _
    simp [Tok.bytes]
    omega
  have h4 : MM.data.toList.length = 7 := rfl
  omega

theorem has_num (l : List Int) : (l.map Tok.num).map Tok.has = l.map Has.num := by
  rw [List.map_map]
  rfl

theorem mm_has : (Tok.name MM.data.toList).has = .name MM := rfl
theorem ma_has : (Tok.name MA.data.toList).has = .name MA := rfl
theorem mr_has : (Tok.name MR.data.toList).has = .name MR := rfl
theorem ms_has : (Tok.name MS.data.toList).has = .name MS := rfl
theorem num_has (n : Int) : (Tok.num n).has = .num n := rfl

theorem parseBy_snd (r : Cur → List Int × Cur) (c : Cur) : (parseBy r c).2 = (r ((((r (((c.must MM).num 0 64).2.must MA)).2.must MR).num 0 64).2.must MS)).2 := rfl
theorem parseBy_fst (r : Cur → List Int × Cur) (c : Cur) : (parseBy r c).1 = ⟨((c.must MM).num 0 64).1, (r (((c.must MM).num 0 64).2.must MA)).1, (((r (((c.must MM).num 0 64).2.must MA)).2.must MR).num 0 64).1, (r ((((r (((c.must MM).num 0 64).2.must MA)).2.must MR).num 0 64).2.must MS)).1⟩ := rfl

theorem text_has (m : Mch) : (Tok.name MM.data.toList).has :: m.toks.map Tok.has = .name MM :: .num m.regs :: .name MA :: (m.args.map Has.num ++ (.name MR :: .num m.ret :: .name MS :: (m.saved.map Has.num ++ []))) := by
  unfold Mch.toks
  simp only [List.map_cons, List.map_append, has_num, List.append_nil, mm_has, ma_has, mr_has, ms_has, num_has]

theorem text_parse {m : Mch} (h : RightM m) : parseM m.text = (m, 0) := by
  have hsz := text_size h
  obtain ⟨b1, b2, b3, b4⟩ := right_bounds h
  have hc := tokText_cur (.name MM.data.toList) m.toks mm_ok (toks_ok h)
  have hc0 : CH (overCur m.text) (.name MM :: .num m.regs :: .name MA :: (m.args.map Has.num ++ (.name MR :: .num m.ret :: .name MS :: (m.saved.map Has.num)))) := by
    rw [text_has] at hc
    rw [List.append_nil] at hc
    exact hc
  have hlen : m.args.length + m.saved.length < (overCur m.text).items.length + 1 := by
    have : (overCur m.text).items.length = ((overCur m.text).items.map (·.has)).length := (List.length_map _).symm
    rw [this, hc0.2]
    simp
    omega
  obtain ⟨e1, h1⟩ := (hc0.must).num (a := 0) (b := 64) b1.1 b1.2
  obtain ⟨e2, h2⟩ := CH.regs m.args ((overCur m.text).items.length + 1) h1.must b2 (Or.inr ⟨MR, _, rfl, by decide⟩) (by omega)
  obtain ⟨e3, h3⟩ := (h2.must).num (a := 0) (b := 64) b3.1 b3.2
  obtain ⟨e4, h4⟩ := CH.regs m.saved (hs := []) ((overCur m.text).items.length + 1) (by rw [List.append_nil]; exact h3.must) b4 (Or.inl rfl) (by omega)
  have hm : (parseBy (regsP ((overCur m.text).items.length + 1)) (overCur m.text)).1 = m := by
    rw [parseBy_fst, e1, e2, e3, e4]
  have he : (parseBy (regsP ((overCur m.text).items.length + 1)) (overCur m.text)).2.err.2.2 = 0 := by
    rw [parseBy_snd]
    exact h4.err
  unfold parseM
  rw [if_neg (by omega)]
  unfold parseC
  rw [if_neg (by rw [he]; simp), hm, if_pos h]

end Go.Proofs.YtfpjdgobannneaaDoor
