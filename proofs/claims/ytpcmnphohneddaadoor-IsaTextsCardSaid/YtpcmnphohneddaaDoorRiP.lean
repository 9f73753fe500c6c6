/- The document's answer of layer 19, plain: what its Text and its Parse find is what the program's find. No program, no world. -/
import Derived.Test.YtpcmnphohneddaaDoorRiD
namespace Go.Proofs.YtpcmnphohneddaaDoor
set_option linter.unusedVariables false

theorem dec_snoc (a d : Nat) (ha : 0 < a) (hd : d < 10) : Lib.decDigits (10 * a + d) = Lib.decDigits a ++ [UInt8.ofNat (48 + d)] := by
  conv => lhs; rw [Lib.decDigits, dif_neg (by omega)]
  rw [show (10 * a + d) / 10 = a by omega, show (10 * a + d) % 10 = d by omega]
theorem digF_app (l : List UInt8) : ∀ (a : Nat) (c : UInt8), digF a (l ++ [c]) = (digF a l).bind fun n => if c.toNat < 48 ∨ 57 < c.toNat then none else some (10 * n + (c.toNat - 48)) := by
  induction l with
  | nil => intro a c; simp [digF]
  | cons x r ih =>
    intro a c
    rw [List.cons_append]
    unfold digF
    split
    · rfl
    · exact ih _ c
theorem digF_dec (n : Nat) : digF 0 (Lib.decDigits n) = some n := by
  induction n using Nat.strongRecOn with
  | _ n ih =>
    rcases Nat.lt_or_ge n 10 with h | h
    · rw [Lib.decDigits_one h]
      simp only [digF, UInt8.toNat_ofNat']
      rw [if_neg (by omega)]
      congr 1
      omega
    · conv => lhs; rw [Lib.decDigits, dif_neg (by omega)]
      rw [digF_app, ih (n / 10) (by omega)]
      simp only [Option.bind_some, UInt8.toNat_ofNat']
      rw [if_neg (by omega)]
      congr 1
      omega
theorem dec_head (n : Nat) (h : 0 < n) : ∃ c r, Lib.decDigits n = c :: r ∧ 48 < c.toNat := by
  induction n using Nat.strongRecOn with
  | _ n ih =>
    rcases Nat.lt_or_ge n 10 with h1 | h1
    · exact ⟨_, [], Lib.decDigits_one h1, by simp only [UInt8.toNat_ofNat']; omega⟩
    · obtain ⟨c, r, hc, h48⟩ := ih (n / 10) (by omega) (by omega)
      refine ⟨c, r ++ [UInt8.ofNat (48 + n % 10)], ?_, h48⟩
      rw [Lib.decDigits, dif_neg (by omega), hc]
      rfl
theorem dec_len5 (n : Nat) (h : n ≤ 65535) : (Lib.decDigits n).length ≤ 5 ∧ 0 < (Lib.decDigits n).length := by
  rw [Lib.decDigits_length]
  refine ⟨?_, Lib.nDigits_pos n⟩
  have H : ∀ (k u : Nat), u < 10 ^ (k + 1) → Lib.nDigits u ≤ k + 1 := by
    intro k
    induction k with
    | zero => intro u hu; rw [Lib.nDigits_small (by omega)]; omega
    | succ k ih =>
      intro u hu
      by_cases h10 : u < 10
      · rw [Lib.nDigits_small h10]; omega
      · rw [Lib.nDigits_big h10]
        have := ih (u / 10) (by rw [Nat.pow_succ] at hu; omega)
        omega
  exact H 4 n (by omega)
theorem digV_dec (n : Nat) (h : n ≤ 65535) : digV (Lib.decDigits n) = n := by
  have hl := dec_len5 n h
  unfold digV
  rw [digF_dec]
  rw [if_neg]
  · rfl
  · rintro (h1 | h1 | ⟨h1, h2⟩)
    · omega
    · omega
    · rcases Nat.eq_zero_or_pos n with rfl | h0
      · rw [Lib.decDigits_one (by decide)] at h1
        simp at h1
      · obtain ⟨c, r, hc, h48⟩ := dec_head n h0
        rw [hc] at h2
        simp only [List.head?_cons, Option.some.injEq] at h2
        subst h2
        exact absurd h48 (by decide)
theorem u8_dig (c : UInt8) (h1 : 48 ≤ c.toNat) : UInt8.ofNat (48 + (c.toNat - 48)) = c := by
  apply UInt8.toNat_inj.1
  rw [UInt8.toNat_ofNat']
  have := c.toNat_lt
  omega
theorem digF_some (l : List UInt8) : ∀ (a n : Nat), 0 < a → digF a l = some n → Lib.decDigits a ++ l = Lib.decDigits n := by
  induction l with
  | nil => intro a n ha h; simp only [digF, Option.some.injEq] at h; subst h; simp
  | cons c r ih =>
    intro a n ha h
    unfold digF at h
    split at h
    · cases h
    · rename_i hc
      rw [← ih _ n (by omega) h, dec_snoc a _ ha (by omega), u8_dig c (by omega)]
      simp
/-- digits that are a number are that number's -/
theorem digV_some (l : List UInt8) (n : Nat) (h : digV l = n) : l = Lib.decDigits n ∧ n < 100000 := by
  unfold digV at h
  split at h
  · omega
  · rename_i hc
    have hc1 : l.length ≠ 0 := fun e => hc (.inl e)
    have hc2 : ¬ 5 < l.length := fun e => hc (.inr (.inl e))
    have hc3 : ¬ (1 < l.length ∧ l.head? = some 48) := fun e => hc (.inr (.inr e))
    cases hq : digF 0 l with
    | none => rw [hq] at h; simp only [digZ] at h; omega
    | some m =>
      rw [hq] at h
      simp only [digZ] at h
      obtain rfl : m = n := by omega
      have e : l = Lib.decDigits m := by
        cases l with
        | nil => simp at hc1
        | cons c r =>
          unfold digF at hq
          split at hq
          · cases hq
          · rename_i hd
            rcases Nat.eq_zero_or_pos (c.toNat - 48) with h0 | h0
            · have h48 : c = 48 := UInt8.toNat_inj.1 (by show c.toNat = 48; omega)
              subst h48
              cases r with
              | nil =>
                simp only [digF, Option.some.injEq] at hq
                subst hq
                rw [Lib.decDigits_one (by decide)]
                rfl
              | cons y r => exact absurd ⟨by simp, rfl⟩ hc3
            · have := digF_some r _ m (by omega) hq
              rw [← this, Lib.decDigits_one (by omega)]
              rw [show 10 * 0 + (c.toNat - 48) = c.toNat - 48 by omega, u8_dig c (by omega)]
              rfl
      refine ⟨e, ?_⟩
      have hlen : (Lib.decDigits m).length ≤ 5 := by rw [← e]; omega
      rw [Lib.decDigits_length] at hlen
      have H : ∀ (k u : Nat), Lib.nDigits u ≤ k → u < 10 ^ k := by
        intro k
        induction k with
        | zero => intro u hu; have := Lib.nDigits_pos u; omega
        | succ k ih =>
          intro u hu
          by_cases h10 : u < 10
          · have : 10 ^ 1 ≤ 10 ^ (k + 1) := Nat.pow_le_pow_right (by decide) (by omega)
            omega
          · rw [Lib.nDigits_big h10] at hu
            have := ih (u / 10) (by omega)
            rw [Nat.pow_succ]
            omega
      exact H 5 m hlen

/-! ### Text -/
/-- the letters of a form -/
def kdM (k : Kd) : List UInt8 := match k with | .none_ => [] | k => kdL k
def letV (x : Ins) (c : UInt8) : Int := if c = 99 then x.c else if c = 98 then x.b else if c = 97 then x.a else x.n
/-- letters' words -/
def letW (x : Ins) (f : List UInt8) : List UInt8 := (f.map fun c => 32 :: Lib.decDigits (letV x c).toNat).flatten
theorem letW_snoc (x : Ins) (f : List UInt8) (c : UInt8) : letW x (f ++ [c]) = letW x f ++ (32 :: Lib.decDigits (letV x c).toNat) := by simp [letW]
theorem itoa_dec (n : Int) (h : 0 ≤ n) : Lib.itoa n = Lib.decDigits n.toNat := by
  obtain ⟨u, rfl⟩ := Int.eq_ofNat_of_zero_le h
  rw [Lib.itoa_nonneg]
  rfl
theorem words_letW (x : Ins) (h : mayB x = true) : Lib.join (textW x) [32] = (opAt x.op).name ++ letW x (kdM (kdAt x.op)) := by
  have hi := (mayB_iff x).1 h
  have hk := (kd_form x.op).1
  obtain ⟨op, a, b, c, n⟩ := x
  obtain ⟨m, rfl⟩ : ∃ m : Nat, n = m := ⟨n.toNat, by have := hi.2.2.2.2.1; simp only at this; omega⟩
  have e : ∀ u : Nat, Lib.itoa (u : Int) = Lib.decDigits u := fun u => Lib.itoa_nonneg u
  simp only at hk
  unfold textW
  rw [Lib.join_cons]
  congr 1
  cases hq : kdAt op <;> rw [hq] at hk <;> simp only [kdF, Prod.mk.injEq] at hk <;> obtain ⟨h1, h2, h3, h4⟩ := hk <;>
    simp [h1, h2, h3, h4, wordIf, Lib.joinTail, letW, kdM, kdL, letV, e]
theorem textL_letW (x : Ins) : textL x = if mayB x then (opAt x.op).name ++ letW x (kdM (kdAt x.op)) else [] := by
  unfold textL
  cases h : mayB x with
  | true => simp only [if_true]; exact words_letW x h
  | false => rfl

/-! ### Parse -/
def setL (x : Ins) (c : UInt8) (n : Nat) : Ins := if c = 97 then ⟨x.op, n, x.b, x.c, x.n⟩ else if c = 98 then ⟨x.op, x.a, n, x.c, x.n⟩ else if c = 99 then ⟨x.op, x.a, x.b, n, x.n⟩ else ⟨x.op, x.a, x.b, x.c, n⟩
def badL (c : UInt8) (n : Int) : Bool := decide (n < 0) || ((c != 110) && decide (7 < n))
/-- fields of words; none: there is one that may not be -/
def dpF : List UInt8 → List (List UInt8) → Ins → Option Ins
  | [], _, x => some x
  | _ :: _, [], _ => none
  | c :: f, v :: ws, x => if badL c (digV v) then none else dpF f ws (setL x c (digV v).toNat)
def dpK (k : Nat) (ws : List (List UInt8)) : Option Ins :=
  if ws.length = (kdM (kdAt k)).length + 1 then
    match dpF (kdM (kdAt k)) ws.tail ⟨k, 0, 0, 0, 0⟩ with
    | some x => if mayB x then some x else none
    | none => none
  else none
/-- what the document's Parse finds -/
def docParse (s : List UInt8) : Option Ins := match opFind (splitSp s).head! with | some k => dpK k (splitSp s) | none => none

theorem kdM_small (k : Nat) : kdM (kdAt k) = [] ∨ kdM (kdAt k) = [97, 110] ∨ kdM (kdAt k) = [97, 98, 99] ∨ kdM (kdAt k) = [97, 98, 110] ∨ kdM (kdAt k) = [110] ∨ kdM (kdAt k) = [97, 98] := by
  cases kdAt k <;> simp [kdM, kdL]

theorem dp_yes {x : Ins} (h : mayB x = true) : dpK x.op (textW x) = some x := by
  have hi := (mayB_iff x).1 h
  have hk := (kd_form x.op).1
  have hm := h
  obtain ⟨op, a, b, c, n⟩ := x
  obtain ⟨ho, ha, hb, hc, hn, hn2⟩ := hi
  obtain ⟨m, rfl⟩ : ∃ m : Nat, n = m := ⟨n.toNat, by simp only at hn; omega⟩
  have e : ∀ u : Nat, Lib.itoa (u : Int) = Lib.decDigits u := fun u => Lib.itoa_nonneg u
  simp only at hk ha hb hc hn2
  unfold dpK textW
  simp only
  cases hq : kdAt op <;> rw [hq] at hk <;> simp only [kdF, Prod.mk.injEq] at hk <;> obtain ⟨h1, h2, h3, h4⟩ := hk <;>
    simp only [h1, h2, h3, h4] at ha hb hc hn2 ⊢
  case no =>
    exfalso
    have := (kd_form op).2.1 (by simp [okB]; exact ho)
    exact this hq
  all_goals
    have dm : digV (Lib.decDigits m) = m := digV_dec m (by omega)
    have da : digV (Lib.decDigits a) = a := digV_dec a (by omega)
    have db : digV (Lib.decDigits b) = b := digV_dec b (by omega)
    have dc : digV (Lib.decDigits c) = c := digV_dec c (by omega)
  · obtain ⟨rfl, rfl, rfl⟩ : a = 0 ∧ b = 0 ∧ c = 0 := by simp at ha hb hc; exact ⟨ha, hb, hc⟩
    obtain rfl : m = 0 := by omega
    have hm0 : mayB ⟨op, 0, 0, 0, 0⟩ = true := hm
    simp [wordIf, kdM, dpF, hm0]
  · obtain ⟨rfl, rfl⟩ : b = 0 ∧ c = 0 := by simp at hb hc; exact ⟨hb, hc⟩
    have q1 : ¬ (7 : Int) < a := by simp at ha; omega
    have q2 : ¬ (m : Int) < 0 := by omega
    have q3 : ¬ (a : Int) < 0 := by omega
    simp [wordIf, kdM, kdL, dpF, e, dm, da, badL, setL, q1, q2, q3, hm]
  · obtain rfl : m = 0 := by omega
    have hm0 : mayB ⟨op, a, b, c, 0⟩ = true := hm
    have q1 : ¬ (7 : Int) < a := by simp at ha; omega
    have q2 : ¬ (7 : Int) < b := by simp at hb; omega
    have q3 : ¬ (7 : Int) < c := by simp at hc; omega
    have p1 : ¬ (a : Int) < 0 := by omega
    have p2 : ¬ (b : Int) < 0 := by omega
    have p3 : ¬ (c : Int) < 0 := by omega
    simp [wordIf, kdM, kdL, dpF, e, da, db, dc, badL, setL, q1, q2, q3, p1, p2, p3, hm0]
  · obtain rfl : c = 0 := by simpa using hc
    have q1 : ¬ (7 : Int) < a := by simp at ha; omega
    have q2 : ¬ (7 : Int) < b := by simp at hb; omega
    have p1 : ¬ (a : Int) < 0 := by omega
    have p2 : ¬ (b : Int) < 0 := by omega
    have p3 : ¬ (m : Int) < 0 := by omega
    simp [wordIf, kdM, kdL, dpF, e, da, db, dm, badL, setL, q1, q2, p1, p2, p3, hm]
  · obtain ⟨rfl, rfl, rfl⟩ : a = 0 ∧ b = 0 ∧ c = 0 := by simp at ha hb hc; exact ⟨ha, hb, hc⟩
    have p3 : ¬ (m : Int) < 0 := by omega
    simp [wordIf, kdM, kdL, dpF, e, dm, badL, setL, p3, hm]
  · obtain rfl : c = 0 := by simpa using hc
    obtain rfl : m = 0 := by omega
    have hm0 : mayB ⟨op, a, b, 0, 0⟩ = true := hm
    have q1 : ¬ (7 : Int) < a := by simp at ha; omega
    have q2 : ¬ (7 : Int) < b := by simp at hb; omega
    have p1 : ¬ (a : Int) < 0 := by omega
    have p2 : ¬ (b : Int) < 0 := by omega
    simp [wordIf, kdM, kdL, dpF, e, da, db, badL, setL, q1, q2, p1, p2, hm0]

theorem digV_nat {v : List UInt8} (h : ¬ digV v < 0) : Lib.decDigits (max (digV v) 0).toNat = v := by
  rw [Int.max_eq_left (Int.not_lt.1 h)]
  exact (digV_some v (digV v).toNat (by omega)).1.symm
theorem badL_n {v : List UInt8} {c : UInt8} (h : badL c (digV v) = false) : ¬ digV v < 0 := by
  unfold badL at h
  simp at h
  omega

theorem dp_no {s : List UInt8} {k : Nat} {x : Ins} (hk : (splitSp s).head! = (opAt k).name) (h : dpK k (splitSp s) = some x) : mayB x = true ∧ textL x = s := by
  unfold dpK at h
  split at h
  · rename_i hlen
    split at h
    · rename_i y hy
      split at h
      · rename_i hm
        injection h with h
        subst h
        refine ⟨hm, ?_⟩
        obtain ⟨v0, ws, hws⟩ := List.exists_cons_of_ne_nil (splitSp_ne s)
        have hj := join_splitSp s
        rw [hws] at hlen hy hk hj
        have hk : v0 = (opAt k).name := hk
        subst hk
        rw [textL_letW, if_pos hm]
        rw [Lib.join_cons] at hj
        rw [← hj]
        simp only [List.length_cons, Nat.add_right_cancel_iff, List.tail_cons] at hlen hy
        rcases kdM_small k with e | e | e | e | e | e
        all_goals
          have e0 := e
          rw [e] at hlen hy
        · obtain rfl := List.eq_nil_of_length_eq_zero hlen
          simp only [dpF, Option.some.injEq] at hy
          subst hy
          simp [e, letW, Lib.joinTail]
        · match ws, hlen with
          | [v1, v2], _ =>
            simp only [dpF] at hy
            split at hy
            · cases hy
            · rename_i q1
              split at hy
              · cases hy
              · rename_i q2
                simp only [Bool.not_eq_true] at q1 q2
                have d1 := digV_nat (badL_n q1)
                have d2 := digV_nat (badL_n q2)
                have p1 := badL_n q1
                have p2 := badL_n q2
                simp only [Option.some.injEq] at hy
                subst hy
                simp [setL, e, letW, Lib.joinTail, letV, d1, d2]
        · match ws, hlen with
          | [v1, v2, v3], _ =>
            simp only [dpF] at hy
            split at hy
            · cases hy
            · rename_i q1
              split at hy
              · cases hy
              · rename_i q2
                split at hy
                · cases hy
                · rename_i q3
                  simp only [Bool.not_eq_true] at q1 q2 q3
                  have d1 := digV_nat (badL_n q1)
                  have d2 := digV_nat (badL_n q2)
                  have d3 := digV_nat (badL_n q3)
                  simp only [Option.some.injEq] at hy
                  subst hy
                  simp [setL, e, letW, Lib.joinTail, letV, d1, d2, d3]
        · match ws, hlen with
          | [v1, v2, v3], _ =>
            simp only [dpF] at hy
            split at hy
            · cases hy
            · rename_i q1
              split at hy
              · cases hy
              · rename_i q2
                split at hy
                · cases hy
                · rename_i q3
                  simp only [Bool.not_eq_true] at q1 q2 q3
                  have d1 := digV_nat (badL_n q1)
                  have d2 := digV_nat (badL_n q2)
                  have d3 := digV_nat (badL_n q3)
                  have p3 := badL_n q3
                  simp only [Option.some.injEq] at hy
                  subst hy
                  simp [setL, e, letW, Lib.joinTail, letV, d1, d2, d3]
        · match ws, hlen with
          | [v1], _ =>
            simp only [dpF] at hy
            split at hy
            · cases hy
            · rename_i q1
              simp only [Bool.not_eq_true] at q1
              have d1 := digV_nat (badL_n q1)
              have p1 := badL_n q1
              simp only [Option.some.injEq] at hy
              subst hy
              simp [setL, e, letW, Lib.joinTail, letV, d1]
        · match ws, hlen with
          | [v1, v2], _ =>
            simp only [dpF] at hy
            split at hy
            · cases hy
            · rename_i q1
              split at hy
              · cases hy
              · rename_i q2
                simp only [Bool.not_eq_true] at q1 q2
                have d1 := digV_nat (badL_n q1)
                have d2 := digV_nat (badL_n q2)
                simp only [Option.some.injEq] at hy
                subst hy
                simp [setL, e, letW, Lib.joinTail, letV, d1, d2]
      · cases h
    · cases h
  · cases h
/-- the document's Parse finds what the program's finds -/
theorem docParse_eq (s : List UInt8) : docParse s = parseC s := by
  have H1 : ∀ x, docParse s = some x → parseC s = some x := by
    intro x h
    unfold docParse at h
    split at h
    · rename_i k hk
      have hp := List.find?_some hk
      simp at hp
      obtain ⟨hm, ht⟩ := dp_no hp.2.symm h
      rw [← ht]
      exact parseC_text hm
    · cases h
  cases hd : docParse s with
  | some x => exact (H1 x hd).symm
  | none =>
    cases hp : parseC s with
    | none => rfl
    | some x =>
      obtain ⟨hm, ht⟩ := parseC_some hp
      have hi := ((mayB_iff x).1 hm).1
      rw [← ht] at hd
      unfold docParse at hd
      rw [split_text hm] at hd
      rw [opFind_some (k := x.op) hi.1 hi.2 (show (opAt x.op).name = (textW x).head! from rfl)] at hd
      simp only [dp_yes hm] at hd
      cases hd
end Go.Proofs.YtpcmnphohneddaaDoor
