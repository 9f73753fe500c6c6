/- Instructions: bytes and texts, plain: no program, no world. -/
import Derived.Lib.AtoiAll
import Derived.Lib.ItoaNum
import Derived.Lib.Split
import Derived.Lib.SplitLaws
import Derived.Lib.Join
namespace Go.Proofs.YtpcmnphohneddaaGreatDoor
set_option linter.unusedVariables false

/-- an instruction -/
structure Ins where
  op : Nat
  a : Nat
  b : Nat
  c : Nat
  n : Int
  deriving DecidableEq

/-- an op's name and form -/
structure Frm where
  name : List UInt8
  a : Bool
  b : Bool
  c : Bool
  n : Nat
  deriving DecidableEq

def opNone : Frm := ⟨[], false, false, false, 0⟩
def opRows : List Frm := [opNone,
  ⟨[110, 111, 112], false, false, false, 0⟩,
  ⟨[115, 101, 116], true, false, false, 65535⟩,
  ⟨[104, 105, 103, 104], true, false, false, 65535⟩,
  ⟨[97, 100, 100], true, true, true, 0⟩,
  ⟨[115, 117, 98], true, true, true, 0⟩,
  ⟨[109, 117, 108], true, true, true, 0⟩,
  ⟨[97, 110, 100], true, true, true, 0⟩,
  ⟨[111, 114], true, true, true, 0⟩,
  ⟨[120, 111, 114], true, true, true, 0⟩,
  ⟨[115, 104, 108], true, true, true, 0⟩,
  ⟨[115, 104, 114], true, true, true, 0⟩,
  ⟨[108, 101, 115, 115], true, true, true, 0⟩,
  ⟨[108, 98], true, true, false, 255⟩,
  ⟨[115, 98], true, true, false, 255⟩,
  ⟨[108, 119], true, true, false, 255⟩,
  ⟨[115, 119], true, true, false, 255⟩,
  ⟨[106, 109, 112], false, false, false, 65535⟩,
  ⟨[106, 122], true, false, false, 65535⟩,
  ⟨[106, 110, 122], true, false, false, 65535⟩,
  ⟨[99, 97, 108, 108], false, false, false, 65535⟩,
  ⟨[109, 111, 118], true, true, false, 0⟩]
def opAt (k : Nat) : Frm := opRows.getD k opNone

def okB (k : Nat) : Bool := decide (1 ≤ k) && decide (k ≤ 21)
def regB (x : Nat) (has : Bool) : Bool := (has && decide (x < 8)) || decide (x = 0)
/-- may an instruction be? -/
def mayB (x : Ins) : Bool :=
  okB x.op && (regB x.a (opAt x.op).a && (regB x.b (opAt x.op).b && (regB x.c (opAt x.op).c && (decide (0 ≤ x.n) && decide (x.n ≤ (opAt x.op).n)))))

/-- its bytes -/
def encI (x : Ins) : Nat × Nat × Nat × Nat :=
  if 255 < (opAt x.op).n then (x.op, x.a, x.n.toNat / 256, x.n.toNat % 256)
  else if 0 < (opAt x.op).n then (x.op, x.a, x.b, x.n.toNat)
  else (x.op, x.a, x.b, x.c)
/-- the instruction that four bytes would be -/
def decI (p q r s : Nat) : Ins :=
  if 255 < (opAt p).n then ⟨p, q, 0, 0, 256 * r + s⟩
  else if 0 < (opAt p).n then ⟨p, q, r, 0, s⟩
  else ⟨p, q, r, s, 0⟩

/-- its fields are bytes -/
structure Ins.Bd (x : Ins) : Prop where
  op : x.op < 256
  a : x.a < 256
  b : x.b < 256
  c : x.c < 256
  n0 : -9223372036854775808 ≤ x.n
  n1 : x.n ≤ 9223372036854775807
def Ins.zero : Ins := ⟨0, 0, 0, 0, 0⟩

theorem opAt_big (k : Nat) (h : 22 ≤ k) : opAt k = opNone := by
  unfold opAt
  rw [List.getD_eq_getElem?_getD, List.getElem?_eq_none (by simpa [opRows] using h)]
  rfl
theorem opAt_n (k : Nat) : (opAt k).n = 0 ∨ (opAt k).n = 255 ∨ (opAt k).n = 65535 := by
  rcases Nat.lt_or_ge k 22 with h | h
  · revert k; decide
  · rw [opAt_big k h]; exact .inl rfl
theorem opAt_wide (k : Nat) (h : 255 < (opAt k).n) : (opAt k).b = false ∧ (opAt k).c = false ∧ (opAt k).n = 65535 := by
  rcases Nat.lt_or_ge k 22 with h' | h'
  · have H : ∀ k, k < 22 → 255 < (opAt k).n → (opAt k).b = false ∧ (opAt k).c = false ∧ (opAt k).n = 65535 := by decide
    exact H k h' h
  · rw [opAt_big k h'] at h; cases h
theorem opAt_small (k : Nat) (h : 0 < (opAt k).n) (h2 : ¬ 255 < (opAt k).n) : (opAt k).c = false ∧ (opAt k).n = 255 := by
  rcases Nat.lt_or_ge k 22 with h' | h'
  · have H : ∀ k, k < 22 → 0 < (opAt k).n → ¬ 255 < (opAt k).n → (opAt k).c = false ∧ (opAt k).n = 255 := by decide
    exact H k h' h h2
  · rw [opAt_big k h'] at h; cases h

theorem regB_iff (x : Nat) (has : Bool) : regB x has = true ↔ (has = true ∧ x < 8) ∨ x = 0 := by simp [regB]
theorem mayB_iff (x : Ins) : mayB x = true ↔ (1 ≤ x.op ∧ x.op ≤ 21) ∧ ((opAt x.op).a = true ∧ x.a < 8 ∨ x.a = 0) ∧ ((opAt x.op).b = true ∧ x.b < 8 ∨ x.b = 0) ∧ ((opAt x.op).c = true ∧ x.c < 8 ∨ x.c = 0) ∧ 0 ≤ x.n ∧ x.n ≤ (opAt x.op).n := by
  unfold mayB okB
  simp [regB_iff]
theorem May.bd {x : Ins} (h : mayB x = true) : x.Bd := by
  rw [mayB_iff] at h
  obtain ⟨h1, h2, h3, h4, h5, h6⟩ := h
  have := opAt_n x.op
  exact ⟨by omega, by omega, by omega, by omega, by omega, by omega⟩

/-- the bytes of an instruction that may be are bytes -/
theorem enc_bd {x : Ins} (h : mayB x = true) : (encI x).1 < 256 ∧ (encI x).2.1 < 256 ∧ (encI x).2.2.1 < 256 ∧ (encI x).2.2.2 < 256 := by
  have hb := May.bd h
  obtain ⟨b1, b2, b3, b4, _, _⟩ := hb
  rw [mayB_iff] at h
  obtain ⟨h1, h2, h3, h4, h5, h6⟩ := h
  unfold encI
  split
  · rename_i hw
    have := (opAt_wide _ hw).2.2
    refine ⟨b1, b2, ?_, ?_⟩ <;> simp only <;> omega
  · split
    · rename_i hw hs
      have := (opAt_small _ hs hw).2
      refine ⟨b1, b2, b3, ?_⟩; simp only; omega
    · exact ⟨b1, b2, b3, b4⟩

theorem dec_enc {x : Ins} (h : mayB x = true) : decI (encI x).1 (encI x).2.1 (encI x).2.2.1 (encI x).2.2.2 = x := by
  rw [mayB_iff] at h
  obtain ⟨h1, h2, h3, h4, h5, h6⟩ := h
  obtain ⟨op, a, b, c, n⟩ := x
  simp only at *
  unfold encI decI
  by_cases hw : 255 < (opAt op).n
  · obtain ⟨e1, e2, e3⟩ := opAt_wide op hw
    simp only [hw, if_true, Ins.mk.injEq, true_and]
    rw [e1] at h3
    rw [e2] at h4
    refine ⟨?_, ?_, ?_⟩
    · simp at h3; exact h3.symm
    · simp at h4; exact h4.symm
    · omega
  · by_cases hs : 0 < (opAt op).n
    · obtain ⟨e2, e3⟩ := opAt_small op hs hw
      simp only [hw, hs, if_true, if_false, Ins.mk.injEq, true_and]
      rw [e2] at h4
      exact ⟨by simp at h4; exact h4.symm, by omega⟩
    · simp only [hw, hs, if_false, Ins.mk.injEq, true_and]
      omega

theorem enc_dec (p q r s : Nat) (hp : p < 256) (hq : q < 256) (hr : r < 256) (hs : s < 256) : encI (decI p q r s) = (p, q, r, s) := by
  unfold encI decI
  by_cases hw : 255 < (opAt p).n
  · simp only [hw, if_true, Prod.mk.injEq, true_and]
    omega
  · by_cases hn : 0 < (opAt p).n
    · simp only [hw, hn, if_true, if_false, Prod.mk.injEq, true_and]
      omega
    · simp only [hw, hn, if_false]
theorem dec_op (p q r s : Nat) : (decI p q r s).op = p := by unfold decI; split <;> (try split) <;> rfl

/-! ### texts -/
/-- a word for a number, where there is one -/
def wordIf (has : Bool) (n : Int) : List (List UInt8) := if has then [Lib.itoa n] else []
/-- its words -/
def textW (x : Ins) : List (List UInt8) :=
  (opAt x.op).name :: (wordIf (opAt x.op).a x.a ++ (wordIf (opAt x.op).b x.b ++ (wordIf (opAt x.op).c x.c ++ wordIf (decide (0 < (opAt x.op).n)) x.n)))
/-- its text -/
def textL (x : Ins) : List UInt8 := if mayB x then Lib.join (textW x) [32] else []

/-- what Atoi gives, whatever its error -/
def atoiV (l : List UInt8) : Int :=
  match Lib.atoiAll l with
  | .ok v => v
  | .range => Lib.atoiSat l
  | _ => 0
/-- one word taken -/
def takeV (has : Bool) (r : List (List UInt8)) : Int := if has && !r.isEmpty then atoiV r.head! else 0
def takeR (has : Bool) (r : List (List UInt8)) : List (List UInt8) := if has && !r.isEmpty then r.tail else r

/-- the op of a name; 0: there is none -/
def opOf (w : List UInt8) : Nat := match (opRows.tail.findIdx? (fun f => f.name == w)) with | some k => k + 1 | none => 0

end Go.Proofs.YtpcmnphohneddaaGreatDoor
