/- Instructions' texts, plain: what Parse finds. No program, no world. -/
import Derived.Test.YtpcmnphohneddaaGreatDoorIsaP
import Derived.Lib.ItoaMem
import Derived.Lib.SplitLaws
namespace Go.Proofs.YtpcmnphohneddaaGreatDoor
set_option linter.unusedVariables false

/-- cut at each space -/
def splitSp : List UInt8 → List (List UInt8)
  | [] => [[]]
  | c :: l => if c = 32 then [] :: splitSp l else match splitSp l with | w :: r => (c :: w) :: r | [] => [[c]]
theorem splitSp_ne (l : List UInt8) : splitSp l ≠ [] := by
  cases l with
  | nil => simp [splitSp]
  | cons c l =>
    unfold splitSp
    split
    · simp
    · split <;> simp
theorem split_eq (s : List UInt8) : Lib.split s [32] = splitSp s := by
  unfold Lib.split
  induction s with
  | nil => rfl
  | cons b l ih =>
    by_cases hb : b = 32
    · subst hb
      rw [Lib.count_cons_eq, Nat.add_comm]
      unfold Lib.splitK splitSp
      have hi : Lib.index (32 :: l) [32] = 0 := by unfold Lib.index; simp [List.isPrefixOf]
      rw [hi]
      simp [ih]
    · rw [Lib.count_cons_ne _ _ _ hb]
      have hp : List.isPrefixOf [32] (b :: l) = false := by
        simp [List.isPrefixOf]
        exact fun e => hb e.symm
      have hi : Lib.index (b :: l) [32] = if Lib.index l [32] == -1 then -1 else Lib.index l [32] + 1 := by
        conv => lhs; unfold Lib.index
        rw [hp]
        simp
      cases hk : Lib.count l [32] with
      | zero =>
        rw [hk] at ih
        unfold splitSp
        rw [if_neg hb, ← ih]
        simp [Lib.splitK]
      | succ k =>
        rw [hk] at ih
        unfold splitSp
        rw [if_neg hb, ← ih]
        unfold Lib.splitK
        rw [hi]
        by_cases h1 : (Lib.index l [32] == -1) = true
        · simp only [h1, if_true]
          simp
        · have hge : 0 ≤ Lib.index l [32] := by
            have h2 : ∀ m : List UInt8, -1 ≤ Lib.index m [32] := by
              intro m
              induction m with
              | nil => simp [Lib.index]
              | cons c m ihm =>
                unfold Lib.index
                split
                · omega
                · split
                  · omega
                  · omega
            have h3 := h2 l
            have h4 : Lib.index l [32] ≠ -1 := by simpa using h1
            omega
          simp only [h1, if_false, Bool.false_eq_true]
          have h5 : ¬ ((Lib.index l [32] + 1 == -1) = true) := by simp; omega
          rw [if_neg h5]
          have e1 : (Lib.index l [32] + 1).toNat = (Lib.index l [32]).toNat + 1 := by omega
          rw [e1]
          simp
theorem splitSp_word (w : List UInt8) (h : ∀ c ∈ w, c ≠ 32) : splitSp w = [w] := by
  induction w with
  | nil => rfl
  | cons c l ih =>
    unfold splitSp
    rw [if_neg (h c (by simp)), ih (fun x hx => h x (by simp [hx]))]
theorem splitSp_app (w r : List UInt8) (h : ∀ c ∈ w, c ≠ 32) : splitSp (w ++ 32 :: r) = w :: splitSp r := by
  induction w with
  | nil => simp [splitSp]
  | cons c l ih =>
    rw [List.cons_append]
    conv => lhs; unfold splitSp
    rw [if_neg (h c (by simp)), ih (fun x hx => h x (by simp [hx]))]
theorem splitSp_join : ∀ (ws : List (List UInt8)), ws ≠ [] → (∀ w ∈ ws, ∀ c ∈ w, c ≠ 32) → splitSp (Lib.join ws [32]) = ws
  | [], h, _ => absurd rfl h
  | [w], _, h => by rw [Lib.join_one]; exact splitSp_word w (h w (by simp))
  | w :: x :: r, _, h => by
    have ih := splitSp_join (x :: r) (by simp) (fun y hy => h y (by simp [hy]))
    rw [Lib.join_cons]
    have e : Lib.joinTail [32] (x :: r) = 32 :: Lib.join (x :: r) [32] := by
      rw [Lib.join_cons]; simp [Lib.joinTail]
    rw [e, splitSp_app w _ (h w (by simp)), ih]
theorem join_splitSp (s : List UInt8) : Lib.join (splitSp s) [32] = s := by
  induction s with
  | nil => rfl
  | cons c l ih =>
    unfold splitSp
    split
    · rename_i h
      subst h
      obtain ⟨w, r, hw⟩ := List.exists_cons_of_ne_nil (splitSp_ne l)
      rw [hw] at ih ⊢
      rw [Lib.join_cons] at ih ⊢
      simp only [Lib.joinTail, List.map_cons, List.flatten_cons, List.nil_append, List.cons_append] at ih ⊢
      rw [ih]
    · obtain ⟨w, r, hw⟩ := List.exists_cons_of_ne_nil (splitSp_ne l)
      rw [hw] at ih ⊢
      simp only
      rw [Lib.join_cons] at ih ⊢
      rw [List.cons_append, ih]

/-! ### digits -/
theorem dec_digit (u : Nat) : ∀ c ∈ Lib.decDigits u, 48 ≤ c.toNat ∧ c.toNat ≤ 57 := by
  induction u using Nat.strongRecOn with
  | _ u ih =>
    rw [Lib.decDigits]
    split
    · rename_i h
      intro c hc
      simp only [List.mem_singleton] at hc
      subst hc
      simp only [UInt8.toNat_ofNat']
      omega
    · rename_i h
      intro c hc
      rw [List.mem_append, List.mem_singleton] at hc
      rcases hc with hc | rfl
      · exact ih (u / 10) (by omega) c hc
      · simp only [UInt8.toNat_ofNat']
        omega
theorem itoa_sp (n : Int) (h : 0 ≤ n) : ∀ c ∈ Lib.itoa n, c ≠ 32 := by
  obtain ⟨u, rfl⟩ := Int.eq_ofNat_of_zero_le h
  rw [Lib.itoa_nonneg]
  intro c hc e
  have := dec_digit u c hc
  subst e
  simp at this
theorem dec_ne (u : Nat) : Lib.decDigits u ≠ [] := by
  rw [Lib.decDigits]
  split <;> simp
theorem parse_app (l : List UInt8) (d : UInt8) : ∀ acc v : Nat, Lib.parseUint10 acc l = .ok v → 48 ≤ d.toNat → d.toNat ≤ 57 → v < 1000000 → Lib.parseUint10 acc (l ++ [d]) = .ok (v * 10 + (d.toNat - 48)) := by
  induction l with
  | nil =>
    intro acc v h h1 h2 hv
    simp only [Lib.parseUint10] at h
    injection h with h
    subst h
    simp only [List.nil_append, Lib.parseUint10]
    rw [if_pos ⟨h1, h2⟩, if_neg (by omega), if_neg (by omega)]
  | cons c r ih =>
    intro acc v h h1 h2 hv
    simp only [Lib.parseUint10, List.cons_append] at h ⊢
    split at h
    · rename_i hc
      rw [if_pos hc]
      split at h
      · cases h
      · rename_i hc2
        rw [if_neg hc2]
        split at h
        · cases h
        · rename_i hc3
          rw [if_neg hc3]
          exact ih _ v h h1 h2 hv
    · cases h
theorem parse_dec (u : Nat) (h : u < 1000000) : Lib.parseUint10 0 (Lib.decDigits u) = .ok u := by
  induction u using Nat.strongRecOn with
  | _ u ih =>
    rw [Lib.decDigits]
    split
    · rename_i h10
      simp only [Lib.parseUint10, UInt8.toNat_ofNat']
      rw [if_pos (by omega), if_neg (by omega), if_neg (by omega)]
      congr 1
      omega
    · rename_i h10
      rw [parse_app _ _ 0 (u / 10) (ih (u / 10) (by omega) (by omega)) (by simp only [UInt8.toNat_ofNat']; omega) (by simp only [UInt8.toNat_ofNat']; omega) (by omega)]
      congr 1
      simp only [UInt8.toNat_ofNat']
      omega
theorem atoi_itoa (u : Nat) (h : u < 1000000) : atoiV (Lib.itoa (u : Int)) = u := by
  rw [Lib.itoa_nonneg]
  have hd := dec_digit u
  have hne := dec_ne u
  have hp := parse_dec u h
  obtain ⟨c, r, hcr⟩ := List.exists_cons_of_ne_nil hne
  rw [hcr] at hd hp ⊢
  have hc := hd c (by simp)
  have e : Lib.atoiAll (c :: r) = .ok (u : Int) := by
    unfold Lib.atoiAll
    simp only
    rw [if_neg (by omega : ¬ (c.toNat = 43 ∨ c.toNat = 45))]
    unfold Lib.parseMag
    rw [if_neg (by simp), hp]
    simp only
    rw [if_neg (by omega), if_neg (by omega), if_neg (by omega)]
  unfold atoiV
  rw [e]

/-! ### what Parse finds -/
def parseK (k : Nat) (ws : List (List UInt8)) (s : List UInt8) : Option Ins :=
  let F := opAt k
  let r0 := ws.tail
  let a := takeV F.a r0
  let r1 := takeR F.a r0
  let b := takeV F.b r1
  let r2 := takeR F.b r1
  let c := takeV F.c r2
  let r3 := takeR F.c r2
  let n := takeV (decide (0 < F.n)) r3
  if 255 < max a (max b c) ∨ min a (min b c) < 0 then none
  else if textL ⟨k, a.toNat, b.toNat, c.toNat, n⟩ = s then some ⟨k, a.toNat, b.toNat, c.toNat, n⟩ else none

/-- what Parse gives of a text -/
def ParseRel (s : List UInt8) (r : Option Ins) : Prop :=
  (r = none ∧ ∀ k, 1 ≤ k → k ≤ 21 → (opAt k).name ≠ (splitSp s).head!) ∨ ∃ k, 1 ≤ k ∧ k ≤ 21 ∧ (opAt k).name = (splitSp s).head! ∧ r = parseK k (splitSp s) s

theorem name_ne (k : Nat) (h1 : 1 ≤ k) (h2 : k ≤ 21) : (opAt k).name ≠ [] ∧ ∀ c ∈ (opAt k).name, c ≠ 32 := by
  have H : ∀ k, k < 22 → 1 ≤ k → (opAt k).name ≠ [] ∧ ∀ c ∈ (opAt k).name, c ≠ 32 := by decide
  exact H k (by omega) h1
theorem name_inj (j k : Nat) (h1 : 1 ≤ j) (h2 : j ≤ 21) (h3 : 1 ≤ k) (h4 : k ≤ 21) (h : (opAt j).name = (opAt k).name) : j = k := by
  have H : ∀ j, j < 22 → ∀ k, k < 22 → 1 ≤ j → 1 ≤ k → (opAt j).name = (opAt k).name → j = k := by decide +kernel
  exact H j (by omega) k (by omega) h1 h3 h

theorem textW_sp {x : Ins} (h : mayB x = true) : ∀ w ∈ textW x, ∀ c ∈ w, c ≠ 32 := by
  have hi := (mayB_iff x).1 h
  obtain ⟨ho, _, _, _, hn, _⟩ := hi
  intro w hw
  unfold textW wordIf at hw
  simp only [List.mem_cons, List.mem_append] at hw
  rcases hw with rfl | hw | hw | hw | hw
  · exact (name_ne x.op ho.1 ho.2).2
  all_goals
    split at hw
    · simp only [List.mem_singleton] at hw
      subst hw
      exact itoa_sp _ (by omega)
    · simp at hw
theorem split_text {x : Ins} (h : mayB x = true) : splitSp (textL x) = textW x := by
  unfold textL
  rw [if_pos h]
  exact splitSp_join _ (by simp [textW]) (textW_sp h)

theorem take_word (has : Bool) (u : Nat) (h : u < 1000000) (r : List (List UInt8)) (hz : has = false → u = 0) : takeV has (wordIf has u ++ r) = u ∧ takeR has (wordIf has u ++ r) = r := by
  cases has with
  | true =>
    refine ⟨?_, by simp [takeR, wordIf]⟩
    show atoiV (Lib.itoa u) = u
    exact atoi_itoa u h
  | false => simp [takeV, takeR, wordIf, hz rfl]
theorem take_last (has : Bool) (u : Nat) (h : u < 1000000) (hz : has = false → u = 0) : takeV has (wordIf has u) = u := by
  have := (take_word has u h [] hz).1
  simpa using this

theorem parseK_text {x : Ins} (h : mayB x = true) : parseK x.op (textW x) (textL x) = some x := by
  have hb := May.bd h
  have hi := (mayB_iff x).1 h
  have hF := opAt_n x.op
  obtain ⟨op, a, b, c, n⟩ := x
  obtain ⟨ho, ha, hbb, hc, hn, hn2⟩ := hi
  simp only at ha hbb hc hn hn2 hF ho
  obtain ⟨m, rfl⟩ : ∃ m : Nat, n = m := ⟨n.toNat, by omega⟩
  have t1 := take_word (opAt op).a a (by omega) (wordIf (opAt op).b b ++ (wordIf (opAt op).c c ++ wordIf (decide (0 < (opAt op).n)) m)) (fun e => by rw [e] at ha; simpa using ha)
  have t2 := take_word (opAt op).b b (by omega) (wordIf (opAt op).c c ++ wordIf (decide (0 < (opAt op).n)) m) (fun e => by rw [e] at hbb; simpa using hbb)
  have t3 := take_word (opAt op).c c (by omega) (wordIf (decide (0 < (opAt op).n)) m) (fun e => by rw [e] at hc; simpa using hc)
  have t4 := take_last (decide (0 < (opAt op).n)) m (by omega) (fun e => by simp at e; omega)
  unfold parseK textW
  simp only [List.tail_cons, t1.1, t1.2, t2.1, t2.2, t3.1, t3.2, t4]
  rw [if_neg (by omega)]
  simp only [Int.toNat_natCast, if_true]

theorem parseK_sound {k : Nat} {ws : List (List UInt8)} {s : List UInt8} {x : Ins} (h : parseK k ws s = some x) : textL x = s ∧ x.op = k := by
  unfold parseK at h
  simp only at h
  split at h
  · cases h
  · split at h
    · rename_i hs
      injection h with h
      subst h
      exact ⟨hs, rfl⟩
    · cases h

/-- Parse finds the one instruction of that text, if there is one -/
theorem parse_spec {s : List UInt8} {r : Option Ins} (h : ParseRel s r) : (∀ x, r = some x → mayB x = true ∧ textL x = s) ∧ ∀ x, mayB x = true → textL x = s → r = some x := by
  constructor
  · intro x hx
    subst hx
    rcases h with ⟨h, _⟩ | ⟨k, h1, h2, hn, h3⟩
    · cases h
    · obtain ⟨hs, hk⟩ := parseK_sound h3.symm
      refine ⟨?_, hs⟩
      cases hm : mayB x with
      | true => rfl
      | false =>
        exfalso
        have e : s = [] := by rw [← hs]; unfold textL; rw [hm]; rfl
        subst e
        exact (name_ne k h1 h2).1 hn
  · intro x hx hs
    have hi := ((mayB_iff x).1 hx).1
    have hsp := split_text hx
    rw [hs] at hsp
    have hh : (splitSp s).head! = (opAt x.op).name := by rw [hsp]; rfl
    rcases h with ⟨rfl, hno⟩ | ⟨k, h1, h2, hn, rfl⟩
    · exact absurd hh.symm (hno x.op hi.1 hi.2)
    · have : k = x.op := name_inj k x.op h1 h2 hi.1 hi.2 (hn.trans hh)
      subst this
      rw [hsp, ← hs]
      exact parseK_text hx
theorem text_inj {x y : Ins} (hx : mayB x = true) (hy : mayB y = true) (h : textL x = textL y) : x = y := by
  have hi := ((mayB_iff x).1 hx).1
  have hr : ParseRel (textL x) (parseK x.op (splitSp (textL x)) (textL x)) := .inr ⟨x.op, hi.1, hi.2, by rw [split_text hx]; rfl, rfl⟩
  have h1 := (parse_spec hr).2 x hx rfl
  have h2 := (parse_spec hr).2 y hy h.symm
  rw [h1] at h2
  injection h2
theorem textL_ne {x : Ins} (hx : mayB x = true) : textL x ≠ [] := by
  intro h
  have hs := split_text hx
  rw [h] at hs
  have hi := ((mayB_iff x).1 hx).1
  have : (opAt x.op).name = [] := by
    have e : (textW x).head! = (opAt x.op).name := rfl
    rw [← e, ← hs]; rfl
  exact (name_ne _ hi.1 hi.2).1 this
end Go.Proofs.YtpcmnphohneddaaGreatDoor
