/- The CRC as plain numbers; one byte otherwise makes another sum. No program, no world. -/
import Derived.Laws.BitsAllLaws
namespace Go.Proofs.YthhbdejagglgbaaGreat

/-- one step of the table -/
def tst (c : Nat) : Nat := (c / 2) ^^^ (3988292384 * (c % 2))
def tw : Nat → Nat → Nat
  | 0, k => k
  | j + 1, k => tst (tw j k)

theorem tst_lt (c : Nat) (h : c < 4294967296) : tst c < 4294967296 := by
  unfold tst
  exact Nat.xor_lt_two_pow (n := 32) (by omega) (by have := Nat.mod_lt c (show 0 < 2 by omega); omega)
theorem tw_lt (j k : Nat) (h : k < 4294967296) : tw j k < 4294967296 := by
  induction j with
  | zero => exact h
  | succ j ih => exact tst_lt _ ih

/-- what half a byte does -/
def half (c : Nat) : Nat := (c / 16) ^^^ tw 4 (c % 16)
theorem half_lt (c : Nat) (h : c < 4294967296) : half c < 4294967296 := by
  unfold half
  exact Nat.xor_lt_two_pow (n := 32) (by omega) (tw_lt 4 _ (by omega))

/-- what a byte does -/
def crcB (c : Nat) (x : UInt8) : Nat := half (half (c ^^^ x.toNat))
theorem crcX_lt (c : Nat) (x : UInt8) (h : c < 4294967296) : c ^^^ x.toNat < 4294967296 :=
  Nat.xor_lt_two_pow (n := 32) h (by have := x.toNat_lt; omega)
theorem crcB_lt (c : Nat) (x : UInt8) (h : c < 4294967296) : crcB c x < 4294967296 := half_lt _ (half_lt _ (crcX_lt c x h))

def crcL (c : Nat) (l : List UInt8) : Nat := l.foldl crcB c
theorem crcL_lt (c : Nat) (l : List UInt8) (h : c < 4294967296) : crcL c l < 4294967296 := by
  induction l generalizing c with
  | nil => exact h
  | cons x r ih => exact ih _ (crcB_lt c x h)

theorem crcL_take_snoc (c : Nat) (l : List UInt8) (k : Nat) (h : k < l.length) : crcL c (l.take (k + 1)) = crcB (crcL c (l.take k)) l[k] := by
  unfold crcL
  rw [List.take_succ_eq_append_getElem h, List.foldl_append]
  rfl

/-- the sum -/
def crcSum (l : List UInt8) : Nat := 4294967295 - crcL 4294967295 l
theorem crcSum_lt (l : List UInt8) : crcSum l < 4294967296 := by unfold crcSum; omega

/-! one byte otherwise -/

theorem tw4_top (a b : Nat) (ha : a < 16) (hb : b < 16) (h : tw 4 a / 268435456 = tw 4 b / 268435456) : a = b := by
  have key : ∀ a, a < 16 → ∀ b, b < 16 → tw 4 a / 268435456 = tw 4 b / 268435456 → a = b := by decide
  exact key a ha b hb h

theorem half_inj (a b : Nat) (ha : a < 4294967296) (hb : b < 4294967296) (h : half a = half b) : a = b := by
  unfold half at h
  have top : ∀ c : Nat, c < 4294967296 → ((c / 16) ^^^ tw 4 (c % 16)) / 268435456 = tw 4 (c % 16) / 268435456 := by
    intro c hc
    rw [show (268435456 : Nat) = 2 ^ 28 from rfl, ← Nat.shiftRight_eq_div_pow, ← Nat.shiftRight_eq_div_pow, Nat.shiftRight_xor_distrib]
    have : (c / 16) >>> 28 = 0 := by rw [Nat.shiftRight_eq_div_pow]; omega
    rw [this, Nat.zero_xor]
  have h1 : tw 4 (a % 16) / 268435456 = tw 4 (b % 16) / 268435456 := by rw [← top a ha, ← top b hb, h]
  have h2 : a % 16 = b % 16 := tw4_top _ _ (by omega) (by omega) h1
  rw [h2] at h
  have h3 : a / 16 = b / 16 := by
    have := congrArg (· ^^^ tw 4 (b % 16)) h
    simpa [Nat.xor_assoc] using this
  omega

theorem xor_cancel (a b x : Nat) (h : a ^^^ x = b ^^^ x) : a = b := by
  have := congrArg (· ^^^ x) h
  simpa [Nat.xor_assoc] using this

theorem crcB_inj (a b : Nat) (x : UInt8) (ha : a < 4294967296) (hb : b < 4294967296) (h : crcB a x = crcB b x) : a = b :=
  xor_cancel _ _ _ (half_inj _ _ (crcX_lt a x ha) (crcX_lt b x hb) (half_inj _ _ (half_lt _ (crcX_lt a x ha)) (half_lt _ (crcX_lt b x hb)) h))

theorem crcB_byte (a : Nat) (x y : UInt8) (ha : a < 4294967296) (h : crcB a x = crcB a y) : x = y := by
  have h1 := half_inj _ _ (crcX_lt a x ha) (crcX_lt a y ha) (half_inj _ _ (half_lt _ (crcX_lt a x ha)) (half_lt _ (crcX_lt a y ha)) h)
  rw [Nat.xor_comm a, Nat.xor_comm a] at h1
  exact UInt8.toNat_inj.1 (xor_cancel _ _ _ h1)

theorem crcL_inj (a b : Nat) (l : List UInt8) (ha : a < 4294967296) (hb : b < 4294967296) (h : crcL a l = crcL b l) : a = b := by
  induction l generalizing a b with
  | nil => exact h
  | cons x r ih => exact crcB_inj a b x ha hb (ih _ _ (crcB_lt a x ha) (crcB_lt b x hb) h)

/-- two rows that part in one byte alone have unlike sums -/
theorem crcSum_one (p s : List UInt8) (x y : UInt8) (h : crcSum (p ++ x :: s) = crcSum (p ++ y :: s)) : x = y := by
  unfold crcSum at h
  have h0 : (4294967295 : Nat) < 4294967296 := by omega
  have e : ∀ z, crcL 4294967295 (p ++ z :: s) = crcL (crcB (crcL 4294967295 p) z) s := by intro z; simp [crcL]
  have l1 := crcL_lt 4294967295 (p ++ x :: s) h0
  have l2 := crcL_lt 4294967295 (p ++ y :: s) h0
  have h1 : crcL 4294967295 (p ++ x :: s) = crcL 4294967295 (p ++ y :: s) := by omega
  rw [e, e] at h1
  have lp := crcL_lt 4294967295 p h0
  exact crcB_byte _ x y lp (crcL_inj _ _ s (crcB_lt _ x lp) (crcB_lt _ y lp) h1)

end Go.Proofs.YthhbdejagglgbaaGreat
