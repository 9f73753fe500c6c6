/- What Parse and Code give, as functions; plain. -/
import Derived.Test.YtpcmnphohneddaaGreatDoorIsaT
namespace Go.Proofs.YtpcmnphohneddaaGreatDoor
set_option linter.unusedVariables false

/-- the op of a name -/
def opFind (w : List UInt8) : Option Nat := (List.range 22).find? fun k => decide (1 ≤ k) && ((opAt k).name == w)
theorem opFind_some {w : List UInt8} {k : Nat} (h1 : 1 ≤ k) (h2 : k ≤ 21) (h : (opAt k).name = w) : opFind w = some k := by
  unfold opFind
  cases hf : (List.range 22).find? (fun k => decide (1 ≤ k) && ((opAt k).name == w)) with
  | none =>
    rw [List.find?_eq_none] at hf
    have := hf k (by simp; omega)
    simp [h1, h] at this
  | some j =>
    have hp := List.find?_some hf
    have hm := List.mem_of_find?_eq_some hf
    simp at hp hm
    rw [name_inj j k hp.1 (by omega) h1 h2 (hp.2.trans h.symm)]
theorem opFind_none {w : List UInt8} (h : ∀ k, 1 ≤ k → k ≤ 21 → (opAt k).name ≠ w) : opFind w = none := by
  unfold opFind
  rw [List.find?_eq_none]
  intro k hk
  simp at hk ⊢
  intro h1
  exact h k h1 (by omega)
/-- what Parse gives -/
def parseC (s : List UInt8) : Option Ins := match opFind (splitSp s).head! with | some k => parseK k (splitSp s) s | none => none
theorem parse_rel {s : List UInt8} {r : Option Ins} (h : ParseRel s r) : r = parseC s := by
  unfold parseC
  rcases h with ⟨rfl, hn⟩ | ⟨k, h1, h2, hn, rfl⟩
  · rw [opFind_none hn]
  · rw [opFind_some h1 h2 hn]
theorem rel_parse (s : List UInt8) : ParseRel s (parseC s) := by
  unfold parseC
  cases h : opFind (splitSp s).head! with
  | none =>
    refine .inl ⟨rfl, fun k h1 h2 e => ?_⟩
    rw [opFind_some h1 h2 e] at h
    cases h
  | some k =>
    have hp := List.find?_some h
    have hm := List.mem_of_find?_eq_some h
    simp at hp hm
    exact .inr ⟨k, hp.1, by omega, hp.2, rfl⟩
theorem parseC_text {x : Ins} (h : mayB x = true) : parseC (textL x) = some x := (parse_spec (rel_parse _)).2 x h rfl
theorem parseC_some {s : List UInt8} {x : Ins} (h : parseC s = some x) : mayB x = true ∧ textL x = s := (parse_spec (rel_parse s)).1 x h

/-- four bytes -/
def encB (x : Ins) : List UInt8 := [UInt8.ofNat (encI x).1, UInt8.ofNat (encI x).2.1, UInt8.ofNat (encI x).2.2.1, UInt8.ofNat (encI x).2.2.2]
/-- what Code gives -/
def codeC : List (List UInt8) → Option (List UInt8)
  | [] => some []
  | l :: r => match parseC l with
    | none => none
    | some x => (codeC r).map (encB x ++ ·)
/-- the bytes of lines that are all instructions -/
def codeB (ls : List (List UInt8)) : List UInt8 := (ls.map fun l => match parseC l with | some x => encB x | none => []).flatten
theorem codeB_snoc (ls : List (List UInt8)) (l : List UInt8) (x : Ins) (h : parseC l = some x) : codeB (ls ++ [l]) = codeB ls ++ encB x := by
  simp [codeB, h]
theorem codeC_all (ls : List (List UInt8)) (h : ∀ l ∈ ls, (parseC l).isSome = true) : codeC ls = some (codeB ls) := by
  induction ls with
  | nil => rfl
  | cons l r ih =>
    obtain ⟨x, hx⟩ := Option.isSome_iff_exists.1 (h l (by simp))
    unfold codeC
    rw [hx, ih (fun y hy => h y (by simp [hy]))]
    simp [codeB, hx]
theorem codeC_no (ls : List (List UInt8)) (l : List UInt8) (hl : l ∈ ls) (h : parseC l = none) : codeC ls = none := by
  induction ls with
  | nil => simp at hl
  | cons y r ih =>
    unfold codeC
    rw [List.mem_cons] at hl
    rcases hl with rfl | hl
    · rw [h]
    · cases parseC y with
      | none => rfl
      | some x => simp [ih hl]
theorem codeB_len (ls : List (List UInt8)) : (codeB ls).length ≤ 4 * ls.length := by
  induction ls with
  | nil => simp [codeB]
  | cons l r ih =>
    have e : codeB (l :: r) = (match parseC l with | some x => encB x | none => []) ++ codeB r := by simp [codeB]
    rw [e, List.length_append, List.length_cons]
    have : (match parseC l with | some x => encB x | none => []).length ≤ 4 := by split <;> simp [encB]
    omega
end Go.Proofs.YtpcmnphohneddaaGreatDoor
