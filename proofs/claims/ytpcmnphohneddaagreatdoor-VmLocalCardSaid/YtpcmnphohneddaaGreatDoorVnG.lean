/- Plain: what VmLocal counts. -/
import Derived.Test.YtpcmnphohneddaaGreatDoorVmP
namespace Go.Proofs.YtpcmnphohneddaaGreatDoor
set_option linter.unusedVariables false

/-- registers that differ, of the first k -/
def dR (p q : Pt) : Nat → Nat
  | 0 => 0
  | k + 1 => if p.g k = q.g k then dR p q k else dR p q k + 1
/-- bytes that differ, of the first k: the first, the last, how many -/
def dM (l m : List UInt8) : Nat → Int × Int × Nat
  | 0 => (-1, -1, 0)
  | k + 1 => if l[k]? = m[k]? then dM l m k else (if (dM l m k).1 < 0 then (k : Int) else (dM l m k).1, (k : Int), (dM l m k).2.2 + 1)
theorem dR_same (p q : Pt) (h : q.r = p.r) : ∀ k, dR p q k = 0 := by
  intro k
  induction k with
  | zero => rfl
  | succ k ih => unfold dR; rw [if_pos (by unfold Pt.g; rw [h]), ih]
theorem dR_set (p : Pt) (q : Pt) (a v : Nat) (h : q.r = p.r.set a v) : ∀ k, dR p q k ≤ 1 ∧ (k ≤ a → dR p q k = 0) := by
  intro k
  induction k with
  | zero => exact ⟨Nat.zero_le _, fun _ => rfl⟩
  | succ k ih =>
    unfold dR
    by_cases hk : k = a
    · subst hk
      have h0 := ih.2 (Nat.le_refl _)
      split
      · exact ⟨by omega, fun h => by omega⟩
      · exact ⟨by omega, fun h => by omega⟩
    · have hg : p.g k = q.g k := by
        unfold Pt.g
        rw [h, List.getD_eq_getElem?_getD, List.getD_eq_getElem?_getD, List.getElem?_set_ne (by omega)]
      rw [if_pos hg]
      exact ⟨ih.1, fun h => ih.2 (by omega)⟩
theorem dM_same (l m : List UInt8) (h : m = l) : ∀ k, dM l m k = (-1, -1, 0) := by
  intro k
  subst h
  induction k with
  | zero => rfl
  | succ k ih => unfold dM; rw [if_pos rfl, ih]
/-- where bytes from a on, at most n, differ -/
theorem dM_put (l m : List UInt8) (a n : Nat) (h : ∀ i, i < a ∨ a + n ≤ i → m[i]? = l[i]?) : ∀ k,
    ((dM l m k).2.2 = 0 ∧ dM l m k = (-1, -1, 0) ∨ 0 < (dM l m k).2.2 ∧ (a : Int) ≤ (dM l m k).1 ∧ (dM l m k).1 ≤ (dM l m k).2.1 ∧ (dM l m k).2.1 < a + n ∧ (dM l m k).2.1 < k) ∧ (dM l m k).2.2 ≤ n ∧ ((dM l m k).2.2 ≤ k - a) := by
  intro k
  induction k with
  | zero => exact ⟨.inl ⟨rfl, rfl⟩, Nat.zero_le _, Nat.zero_le _⟩
  | succ k ih =>
    by_cases he : l[k]? = m[k]?
    · have e : dM l m (k + 1) = dM l m k := by rw [dM, if_pos he]
      rw [e]
      obtain ⟨h1, h2, h3⟩ := ih
      refine ⟨?_, h2, by omega⟩
      rcases h1 with h1 | ⟨g1, g2, g3, g4, g5⟩
      · exact .inl h1
      · exact .inr ⟨g1, g2, g3, g4, by omega⟩
    · have hin : a ≤ k ∧ k < a + n := by
        rcases Nat.lt_or_ge k a with h1 | h1
        · exact absurd (h k (.inl h1)).symm he
        · rcases Nat.lt_or_ge k (a + n) with h2 | h2
          · exact ⟨h1, h2⟩
          · exact absurd (h k (.inr h2)).symm he
      have e : dM l m (k + 1) = (if (dM l m k).1 < 0 then (k : Int) else (dM l m k).1, (k : Int), (dM l m k).2.2 + 1) := by rw [dM, if_neg he]
      rw [e]
      obtain ⟨h1, h2, h3⟩ := ih
      simp only
      rcases h1 with ⟨g0, g1⟩ | ⟨g1, g2, g3, g4, g5⟩
      · rw [g1]
        simp only
        refine ⟨.inr ⟨by omega, ?_, ?_, by omega, by omega⟩, by omega, by omega⟩
        · rw [if_pos (by omega)]; omega
        · rw [if_pos (by omega)]; omega
      · rw [if_neg (by omega)]
        refine ⟨.inr ⟨by omega, g2, by omega, by omega, by omega⟩, by omega, by omega⟩
/-- what VmLocal asks of a step -/
structure Local (p : Pt) : Prop where
  id : (stepV p).1.id = p.id
  size : (stepV p).1.size = p.size
  keep : (stepV p).1.keep = p.keep
  regs : dR p (stepV p).1 8 ≤ 1
  bytes : (dM p.mem (stepV p).1.mem p.mem.length).2.2 ≤ 4
  span : 0 < (dM p.mem (stepV p).1.mem p.mem.length).2.2 → (dM p.mem (stepV p).1.mem p.mem.length).2.1 - (dM p.mem (stepV p).1.mem p.mem.length).1 ≤ 3 ∧ dR p (stepV p).1 8 = 0
  call : 0 ≤ (stepV p).2.1 → dR p (stepV p).1 8 = 0 ∧ (dM p.mem (stepV p).1.mem p.mem.length).2.2 = 0 ∧ (stepV p).1.pc = (p.pc + 4) % 4294967296
  fault : (stepV p).1.st ≠ p.st ∨ (stepV p).2.2 ≠ 0 → (stepV p).1 = { p with st := (stepV p).1.st } ∧ (stepV p).2.1 = -1
theorem local_ok (p : Pt) : Local p := by
  rcases step_shape p with ⟨h, hc⟩ | ⟨⟨v, h⟩, hc, he⟩ | ⟨⟨a, v, h⟩, hc, he⟩ | ⟨⟨a, b, h4, hl, h⟩, hc, he⟩ | ⟨h, he⟩
  · have hr : (stepV p).1.r = p.r := by rw [h]
    have hm : (stepV p).1.mem = p.mem := by rw [h]
    have e1 := dR_same p (stepV p).1 hr 8
    have e2 := dM_same p.mem (stepV p).1.mem hm p.mem.length
    exact ⟨by rw [h], by rw [h], by rw [h], by omega, by rw [e2]; simp, fun hx => by rw [e2] at hx; simp at hx, fun hx => by omega, fun _ => ⟨h, hc⟩⟩
  · have hr : (stepV p).1.r = p.r := by rw [h]
    have hm : (stepV p).1.mem = p.mem := by rw [h]
    have hs : (stepV p).1.st = p.st := by rw [h]
    have e1 := dR_same p (stepV p).1 hr 8
    have e2 := dM_same p.mem (stepV p).1.mem hm p.mem.length
    exact ⟨by rw [h], by rw [h], by rw [h], by omega, by rw [e2]; simp, fun hx => by rw [e2] at hx; simp at hx, fun hx => by omega, fun hx => absurd hx (by rw [hs, he]; simp)⟩
  · have hr : (stepV p).1.r = p.r.set a v := by rw [h]; rfl
    have hm : (stepV p).1.mem = p.mem := by rw [h]; rfl
    have hs : (stepV p).1.st = p.st := by rw [h]; rfl
    have e1 := (dR_set p (stepV p).1 a v hr 8).1
    have e2 := dM_same p.mem (stepV p).1.mem hm p.mem.length
    exact ⟨by rw [h]; rfl, by rw [h]; rfl, by rw [h]; rfl, e1, by rw [e2]; simp, fun hx => by rw [e2] at hx; simp at hx, fun hx => by omega, fun hx => absurd hx (by rw [hs, he]; simp)⟩
  · have hr : (stepV p).1.r = p.r := by rw [h]
    have hm : (stepV p).1.mem = put p.mem a b := by rw [h]
    have hs : (stepV p).1.st = p.st := by rw [h]
    have e1 := dR_same p (stepV p).1 hr 8
    have e2 := dM_put p.mem (stepV p).1.mem a b.length (fun i hi => by rw [hm]; exact put_get hl i hi) p.mem.length
    refine ⟨by rw [h], by rw [h], by rw [h], by omega, by omega, fun hx => ⟨?_, e1⟩, fun hx => by omega, fun hx => absurd hx (by rw [hs, he]; simp)⟩
    rcases e2.1 with ⟨g, _⟩ | ⟨_, g2, g3, g4, _⟩
    · omega
    · omega
  · have hr : (stepV p).1.r = p.r := by rw [h]
    have hm : (stepV p).1.mem = p.mem := by rw [h]
    have hs : (stepV p).1.st = p.st := by rw [h]
    have e1 := dR_same p (stepV p).1 hr 8
    have e2 := dM_same p.mem (stepV p).1.mem hm p.mem.length
    exact ⟨by rw [h], by rw [h], by rw [h], by omega, by rw [e2]; simp, fun hx => by rw [e2] at hx; simp at hx, fun hx => ⟨e1, by rw [e2], by rw [h]⟩, fun hx => absurd hx (by rw [hs, he]; simp)⟩
end Go.Proofs.YtpcmnphohneddaaGreatDoor
