/- The document's words, plain: byte by byte. -/
import Derived.Test.YtpcmnphohneddaaDoorRiP
namespace Go.Proofs.YtpcmnphohneddaaDoor
set_option linter.unusedVariables false

/-- words so far, the pending one, the bytes left -/
def spG : List (List UInt8) → List UInt8 → List UInt8 → List (List UInt8)
  | acc, pw, [] => acc ++ [pw]
  | acc, pw, c :: r => if c = 32 then spG (acc ++ [pw]) [] r else spG acc (pw ++ [c]) r
theorem spG_eq (s : List UInt8) : ∀ acc pw, spG acc pw s = acc ++ (match splitSp s with | h :: t => (pw ++ h) :: t | [] => [pw]) := by
  induction s with
  | nil => intro acc pw; simp [spG, splitSp]
  | cons c r ih =>
    intro acc pw
    obtain ⟨h, t, hr⟩ := List.exists_cons_of_ne_nil (splitSp_ne r)
    unfold spG splitSp
    by_cases hc : c = 32
    · rw [if_pos hc, if_pos hc, ih, hr]
      simp
    · rw [if_neg hc, if_neg hc, ih, hr]
      simp
theorem spG_split (s : List UInt8) : spG [] [] s = splitSp s := by
  rw [spG_eq]
  obtain ⟨h, t, hr⟩ := List.exists_cons_of_ne_nil (splitSp_ne s)
  rw [hr]
  simp
theorem spG_len (s : List UInt8) : ∀ acc pw, (spG acc pw s).length ≤ acc.length + s.length + 1 := by
  induction s with
  | nil => intro acc pw; simp [spG]
  | cons c r ih =>
    intro acc pw
    unfold spG
    split
    · have := ih (acc ++ [pw]) []; simp at this ⊢; omega
    · have := ih acc (pw ++ [c]); simp at this ⊢; omega
theorem splitSp_size (s : List UInt8) : (splitSp s).length ≤ s.length + 1 := by
  rw [← spG_split]
  have := spG_len s [] []
  simpa using this
theorem splitSp_mem (s : List UInt8) : ∀ w ∈ splitSp s, w.length ≤ s.length := by
  induction s with
  | nil => intro w hw; simp [splitSp] at hw; subst hw; simp
  | cons c r ih =>
    intro w hw
    obtain ⟨h, t, hr⟩ := List.exists_cons_of_ne_nil (splitSp_ne r)
    rw [hr] at ih
    unfold splitSp at hw
    rw [hr] at hw
    split at hw
    · rcases List.mem_cons.1 hw with rfl | hw
      · simp
      · have := ih w hw; simp; omega
    · rcases List.mem_cons.1 hw with rfl | hw
      · have := ih h (by simp); simp; omega
      · have := ih w (by simp [hw]); simp; omega

/-- the letters are a, b, c, n -/
theorem kdM_let (k : Nat) : ∀ (i : Nat) (h : i < (kdM (kdAt k)).length), (kdM (kdAt k))[i] = 97 ∨ (kdM (kdAt k))[i] = 98 ∨ (kdM (kdAt k))[i] = 99 ∨ (kdM (kdAt k))[i] = 110 := by
  have H : ∀ c ∈ kdM (kdAt k), c = 97 ∨ c = 98 ∨ c = 99 ∨ c = 110 := by
    intro c hc
    rcases kdM_small k with e | e | e | e | e | e <;> rw [e] at hc <;> simp only [List.not_mem_nil, List.mem_cons, or_false] at hc
    · rcases hc with h | h <;> simp [h]
    · rcases hc with h | h | h <;> simp [h]
    · rcases hc with h | h | h <;> simp [h]
    · simp [hc]
    · rcases hc with h | h <;> simp [h]
  exact fun i h => H _ (List.getElem_mem h)
theorem kdM_len (k : Nat) : (kdM (kdAt k)).length ≤ 3 := by rcases kdM_small k with e | e | e | e | e | e <;> rw [e] <;> decide
theorem kdL_M {k : Nat} (h : kdAt k ≠ .none_) : kdM (kdAt k) = kdL (kdAt k) := by
  cases hk : kdAt k <;> first | rfl | exact absurd hk h
theorem setL_bd (x : Ins) (c : UInt8) (d : Nat) (h : x.Bd) (hd : d < 100000) (h7 : c ≠ 110 → d ≤ 7) (hc : c = 97 ∨ c = 98 ∨ c = 99 ∨ c = 110) : (setL x c d).Bd := by
  obtain ⟨h1, h2, h3, h4, h5, h6⟩ := h
  rcases hc with rfl | rfl | rfl | rfl
  · have := h7 (by decide)
    exact ⟨h1, by show d < 256; omega, h3, h4, h5, h6⟩
  · have := h7 (by decide)
    exact ⟨h1, h2, by show d < 256; omega, h4, h5, h6⟩
  · have := h7 (by decide)
    exact ⟨h1, h2, h3, by show d < 256; omega, h5, h6⟩
  · exact ⟨h1, h2, h3, h4, by show -9223372036854775808 ≤ (d : Int); omega, by show (d : Int) ≤ 9223372036854775807; omega⟩
end Go.Proofs.YtpcmnphohneddaaDoor
