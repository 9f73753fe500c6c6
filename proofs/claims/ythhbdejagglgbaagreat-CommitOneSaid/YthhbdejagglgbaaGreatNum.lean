/- Numbers as rows of bytes (big-endian). Plain lists and numbers: no program, no world. -/
namespace Go.Proofs.YthhbdejagglgbaaGreat

/-- the row of n bytes of a number -/
def be (x : Nat) : Nat → List UInt8
  | 0 => []
  | n + 1 => be (x / 256) n ++ [UInt8.ofNat x]

/-- the number of a row -/
def num (l : List UInt8) : Nat := l.foldl (fun a d => 256 * a + d.toNat) 0

theorem be_length (x n : Nat) : (be x n).length = n := by
  induction n generalizing x with
  | zero => rfl
  | succ n ih => simp [be, ih]

theorem num_snoc (l : List UInt8) (d : UInt8) : num (l ++ [d]) = 256 * num l + d.toNat := by simp [num]
theorem num_nil : num [] = 0 := rfl

theorem ofNat_toNat (x : Nat) : (UInt8.ofNat x).toNat = x % 256 := by simp

theorem num_be (x n : Nat) (h : x < 256 ^ n) : num (be x n) = x := by
  induction n generalizing x with
  | zero => simp at h; subst h; rfl
  | succ n ih =>
    have hx : x / 256 < 256 ^ n := by rw [Nat.div_lt_iff_lt_mul (by omega)]; rw [Nat.pow_succ] at h; exact h
    simp only [be, num_snoc, ih _ hx, ofNat_toNat]
    omega

theorem be_num (l : List UInt8) : be (num l) l.length = l := by
  suffices h : ∀ n (l : List UInt8), l.length = n → be (num l) n = l from h _ l rfl
  intro n
  induction n with
  | zero => intro l h; have := List.eq_nil_of_length_eq_zero h; subst this; rfl
  | succ n ih =>
    intro l h
    have hne : l ≠ [] := by rintro rfl; simp at h
    obtain ⟨r, d, rfl⟩ : ∃ r d, l = r ++ [d] := ⟨l.dropLast, l.getLast hne, (List.dropLast_concat_getLast hne).symm⟩
    have hr : r.length = n := by simpa using h
    have hd := d.toNat_lt
    rw [num_snoc, be]
    have e1 : (256 * num r + d.toNat) / 256 = num r := by omega
    have e2 : UInt8.ofNat (256 * num r + d.toNat) = d := by
      apply UInt8.toNat_inj.1
      rw [ofNat_toNat]
      omega
    rw [e1, e2, ih r hr]

theorem num_lt (l : List UInt8) : num l < 256 ^ l.length := by
  suffices h : ∀ n (l : List UInt8), l.length = n → num l < 256 ^ n from h _ l rfl
  intro n
  induction n with
  | zero => intro l h; have := List.eq_nil_of_length_eq_zero h; subst this; simp [num]
  | succ n ih =>
    intro l h
    have hne : l ≠ [] := by rintro rfl; simp at h
    obtain ⟨r, d, rfl⟩ : ∃ r d, l = r ++ [d] := ⟨l.dropLast, l.getLast hne, (List.dropLast_concat_getLast hne).symm⟩
    have hr : r.length = n := by simpa using h
    have hd := d.toNat_lt
    have := ih r hr
    rw [num_snoc, Nat.pow_succ]
    omega

theorem be_inj (x y n : Nat) (hx : x < 256 ^ n) (hy : y < 256 ^ n) (h : be x n = be y n) : x = y := by
  rw [← num_be x n hx, ← num_be y n hy, h]

theorem num_take_snoc (l : List UInt8) (k : Nat) (h : k < l.length) : num (l.take (k + 1)) = 256 * num (l.take k) + l[k].toNat := by
  rw [List.take_succ_eq_append_getElem h, num_snoc]

theorem num_take_lt (l : List UInt8) (k : Nat) (h : k ≤ l.length) : num (l.take k) < 256 ^ k := by
  have := num_lt (l.take k)
  rw [List.length_take, Nat.min_eq_left h] at this
  exact this

end Go.Proofs.YthhbdejagglgbaaGreat
