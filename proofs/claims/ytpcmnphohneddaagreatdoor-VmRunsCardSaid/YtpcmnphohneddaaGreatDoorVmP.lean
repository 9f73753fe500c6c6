/- Partitions and steps, plain: what package vm's Step makes of a partition. No program, no world. -/
import Derived.Test.YtpcmnphohneddaaGreatDoorIsaP
namespace Go.Proofs.YtpcmnphohneddaaGreatDoor
set_option linter.unusedVariables false

/-- a partition -/
structure Pt where
  id : Int
  size : Int
  keep : Bool
  r : List Nat
  pc : Nat
  st : Nat
  mem : List UInt8
structure Pt.Bd (p : Pt) : Prop where
  r8 : p.r.length = 8
  rb : ∀ i, p.r.getD i 0 < 4294967296
  pcb : p.pc < 4294967296
  stb : p.st < 256
  idb : -9223372036854775808 ≤ p.id ∧ p.id ≤ 9223372036854775807
  sizeb : -9223372036854775808 ≤ p.size ∧ p.size ≤ 9223372036854775807
/-- a register -/
def Pt.g (p : Pt) (a : Nat) : Nat := p.r.getD a 0
def Pt.set (p : Pt) (a v : Nat) : Pt := { p with r := p.r.set a v }

/-- are n bytes from a place on there? -/
def there (m : List UInt8) (at_ n : Nat) : Bool := decide (m.length ≤ 512) && decide (at_ + n ≤ m.length)
def cut (m : List UInt8) (at_ n : Nat) : List UInt8 := (m.drop at_).take n
def put (m : List UInt8) (at_ : Nat) (b : List UInt8) : List UInt8 := m.take at_ ++ (b ++ m.drop (at_ + b.length))
def num32 (b : List UInt8) : Nat := b.foldl (fun x c => 256 * x + c.toNat) 0
def word32 (x : Nat) : List UInt8 := [UInt8.ofNat (x / 16777216), UInt8.ofNat (x / 65536), UInt8.ofNat (x / 256), UInt8.ofNat x]

/-- what is made of two registers -/
def mk2 (k : Nat) (b c : Nat) : Nat :=
  if k = 4 then (b + c) % 4294967296
  else if k = 5 then (b + 4294967296 - c) % 4294967296
  else if k = 6 then b * c % 4294967296
  else if k = 7 then b &&& c
  else if k = 8 then b ||| c
  else if k = 9 then b ^^^ c
  else if k = 10 then b * 2 ^ (c % 32) % 4294967296
  else if k = 11 then b / 2 ^ (c % 32)
  else if k = 12 then (if b < c then 1 else 0)
  else 0

/-- what an instruction does that does not jump; none: it may not -/
def does (x : Ins) (p : Pt) : Option Pt :=
  let n := x.n.toNat
  let at_ := p.g x.b + n
  if x.op = 2 then some (p.set x.a n)
  else if x.op = 3 then some (p.set x.a ((p.g x.a * 65536 % 4294967296) ||| n))
  else if x.op = 21 then some (p.set x.a (p.g x.b))
  else if 4 ≤ x.op ∧ x.op ≤ 12 then some (p.set x.a (mk2 x.op (p.g x.b) (p.g x.c)))
  else if x.op = 13 then if there p.mem at_ 1 then some (p.set x.a (num32 (cut p.mem at_ 1))) else none
  else if x.op = 15 then if there p.mem at_ 4 then some (p.set x.a (num32 (cut p.mem at_ 4))) else none
  else if x.op = 14 then if there p.mem at_ 1 then some { p with mem := put p.mem at_ [UInt8.ofNat (p.g x.a)] } else none
  else if x.op = 16 then if there p.mem at_ 4 then some { p with mem := put p.mem at_ (word32 (p.g x.a)) } else none
  else some p
def jumpsB (x : Ins) (p : Pt) : Bool := decide (x.op = 17) || (decide (x.op = 18) && decide (p.g x.a = 0)) || (decide (x.op = 19) && !decide (p.g x.a = 0))
/-- the instruction at the PC, if its bytes are there -/
def fetch (p : Pt) : Option Ins :=
  if there p.mem p.pc 4 then
    match cut p.mem p.pc 4 with
    | [q, r, s, t] => some (decI q.toNat r.toNat s.toNat t.toNat)
    | _ => none
  else none
/-- a step: the next partition, the call, the error -/
def stepV (p : Pt) : Pt × Int × Nat :=
  if p.st ≠ 0 then (p, -1, 2)
  else match fetch p with
    | none => ({ p with st := 3 }, -1, 0)
    | some x =>
      if mayB x then
        if jumpsB x p then ({ p with pc := x.n.toNat }, -1, 0)
        else match does x p with
          | none => ({ p with st := 3 }, -1, 0)
          | some q => ({ q with pc := (p.pc + 4) % 4294967296 }, if x.op = 20 then x.n else -1, 0)
      else ({ p with st := 2 }, -1, 0)
/-- a run: the partition, the call, the steps -/
def runV : Nat → Pt → Pt × Int × Nat
  | 0, p => (p, -1, 0)
  | n + 1, p => if p.st = 0 then (if (stepV p).2.1 < 0 then ((runV n (stepV p).1).1, (runV n (stepV p).1).2.1, (runV n (stepV p).1).2.2 + 1) else ((stepV p).1, (stepV p).2.1, 1)) else (p, -1, 0)
theorem put_len {m : List UInt8} {a : Nat} {b : List UInt8} (h : a + b.length ≤ m.length) : (put m a b).length = m.length := by
  simp [put]
  omega
theorem put_get {m : List UInt8} {a : Nat} {b : List UInt8} (h : a + b.length ≤ m.length) (i : Nat) (hi : i < a ∨ a + b.length ≤ i) : (put m a b)[i]? = m[i]? := by
  unfold put
  rcases hi with hi | hi
  · rw [List.getElem?_append_left (by simp; omega), List.getElem?_take_of_lt hi]
  · rw [List.getElem?_append_right (by simp; omega), List.getElem?_append_right (by simp; omega), List.getElem?_drop]
    congr 1
    simp
    omega
theorem put_in {m : List UInt8} {a : Nat} {b : List UInt8} (h : a + b.length ≤ m.length) (i : Nat) (h1 : a ≤ i) (h2 : i < a + b.length) : (put m a b)[i]? = b[i - a]? := by
  unfold put
  have hl : (m.take a).length = a := by rw [List.length_take]; omega
  rw [List.getElem?_append_right (by omega), hl, List.getElem?_append_left (by omega)]
theorem there_iff (m : List UInt8) (a n : Nat) : there m a n = true ↔ m.length ≤ 512 ∧ a + n ≤ m.length := by simp [there]
/-- what a step makes -/
theorem does_shape {x : Ins} {p q : Pt} (h : does x p = some q) : q = p ∨ (∃ a v, q = p.set a v ∧ x.op ≠ 20) ∨ (∃ a b, b.length ≤ 4 ∧ a + b.length ≤ p.mem.length ∧ q = { p with mem := put p.mem a b } ∧ x.op ≠ 20) := by
  unfold does at h
  simp only at h
  split at h
  · injection h with h; exact .inr (.inl ⟨_, _, h.symm, by omega⟩)
  split at h
  · injection h with h; exact .inr (.inl ⟨_, _, h.symm, by omega⟩)
  split at h
  · injection h with h; exact .inr (.inl ⟨_, _, h.symm, by omega⟩)
  split at h
  · injection h with h; exact .inr (.inl ⟨_, _, h.symm, by omega⟩)
  split at h
  · split at h
    · injection h with h; exact .inr (.inl ⟨_, _, h.symm, by omega⟩)
    · cases h
  split at h
  · split at h
    · injection h with h; exact .inr (.inl ⟨_, _, h.symm, by omega⟩)
    · cases h
  split at h
  · split at h
    · rename_i ht
      injection h with h
      exact .inr (.inr ⟨_, _, by simp, ((there_iff _ _ _).1 ht).2, h.symm, by omega⟩)
    · cases h
  split at h
  · split at h
    · rename_i ht
      injection h with h
      exact .inr (.inr ⟨_, _, by simp [word32], ((there_iff _ _ _).1 ht).2, h.symm, by omega⟩)
    · cases h
  · injection h with h; exact .inl h.symm
theorem step_err (p : Pt) : (stepV p).2.2 = if p.st = 0 then 0 else 2 := by
  unfold stepV
  by_cases h : p.st = 0
  · rw [if_neg (by omega), if_pos h]
    split
    · rfl
    · split
      · split
        · rfl
        · split <;> rfl
      · rfl
  · rw [if_pos h, if_neg h]
theorem step_shape (p : Pt) :
    ((stepV p).1 = { p with st := (stepV p).1.st } ∧ (stepV p).2.1 = -1) ∨
    ((∃ v, (stepV p).1 = { p with pc := v }) ∧ (stepV p).2.1 = -1 ∧ (stepV p).2.2 = 0) ∨
    ((∃ a v, (stepV p).1 = { p.set a v with pc := (p.pc + 4) % 4294967296 }) ∧ (stepV p).2.1 = -1 ∧ (stepV p).2.2 = 0) ∨
    ((∃ a b, b.length ≤ 4 ∧ a + b.length ≤ p.mem.length ∧ (stepV p).1 = { p with mem := put p.mem a b, pc := (p.pc + 4) % 4294967296 }) ∧ (stepV p).2.1 = -1 ∧ (stepV p).2.2 = 0) ∨
    ((stepV p).1 = { p with pc := (p.pc + 4) % 4294967296 } ∧ (stepV p).2.2 = 0) := by
  unfold stepV
  by_cases h : p.st = 0
  · rw [if_neg (by omega)]
    split
    · exact .inl ⟨rfl, rfl⟩
    · split
      · split
        · exact .inr (.inl ⟨⟨_, rfl⟩, rfl, rfl⟩)
        · split
          · exact .inl ⟨rfl, rfl⟩
          · rename_i hd
            rcases does_shape hd with rfl | ⟨a, v, rfl, h20⟩ | ⟨a, b, h4, hl, rfl, h20⟩
            · exact .inr (.inr (.inr (.inr ⟨rfl, rfl⟩)))
            · exact .inr (.inr (.inl ⟨⟨a, v, rfl⟩, if_neg h20, rfl⟩))
            · exact .inr (.inr (.inr (.inl ⟨⟨a, b, h4, hl, rfl⟩, if_neg h20, rfl⟩)))
      · exact .inl ⟨rfl, rfl⟩
  · rw [if_pos h]
    exact .inl ⟨rfl, rfl⟩

/-! ### A run in pieces -/
theorem run_le (n : Nat) : ∀ p, (runV n p).2.2 ≤ n := by
  induction n with
  | zero => intro p; exact Nat.le_refl _
  | succ n ih =>
    intro p
    unfold runV
    split
    · split
      · have := ih (stepV p).1
        show (runV n (stepV p).1).2.2 + 1 ≤ n + 1
        omega
      · show 1 ≤ n + 1
        omega
    · show 0 ≤ n + 1
      omega
theorem run_pieces (a b : Nat) : ∀ p, (0 ≤ (runV a p).2.1 → runV (a + b) p = runV a p) ∧ ((runV a p).2.1 < 0 → (runV (a + b) p).1 = (runV b (runV a p).1).1 ∧ (runV (a + b) p).2.1 = (runV b (runV a p).1).2.1 ∧ (runV (a + b) p).2.2 = (runV a p).2.2 + (runV b (runV a p).1).2.2) := by
  induction a with
  | zero =>
    intro p
    refine ⟨fun h => ?_, fun _ => ?_⟩
    · have : (0 : Int) ≤ -1 := h
      omega
    · rw [Nat.zero_add]
      refine ⟨rfl, rfl, ?_⟩
      show _ = 0 + _
      rw [Nat.zero_add]
      rfl
  | succ a ih =>
    intro p
    rw [show a + 1 + b = (a + b) + 1 by omega]
    obtain ⟨h1, h2⟩ := ih (stepV p).1
    by_cases hs : p.st = 0
    · by_cases hc : (stepV p).2.1 < 0
      · have e1 : runV (a + 1) p = ((runV a (stepV p).1).1, (runV a (stepV p).1).2.1, (runV a (stepV p).1).2.2 + 1) := by rw [runV, if_pos hs, if_pos hc]
        have e2 : runV (a + b + 1) p = ((runV (a + b) (stepV p).1).1, (runV (a + b) (stepV p).1).2.1, (runV (a + b) (stepV p).1).2.2 + 1) := by rw [runV, if_pos hs, if_pos hc]
        rw [e1, e2]
        refine ⟨fun h => by rw [h1 h], fun h => ?_⟩
        obtain ⟨q1, q2, q3⟩ := h2 h
        refine ⟨q1, q2, ?_⟩
        show (runV (a + b) (stepV p).1).2.2 + 1 = (runV a (stepV p).1).2.2 + 1 + (runV b (runV a (stepV p).1).1).2.2
        omega
      · have e1 : runV (a + 1) p = ((stepV p).1, (stepV p).2.1, 1) := by rw [runV, if_pos hs, if_neg hc]
        have e2 : runV (a + b + 1) p = ((stepV p).1, (stepV p).2.1, 1) := by rw [runV, if_pos hs, if_neg hc]
        rw [e1, e2]
        exact ⟨fun _ => rfl, fun h => absurd h hc⟩
    · have e1 : runV (a + 1) p = (p, -1, 0) := by rw [runV, if_neg hs]
      have e2 : runV (a + b + 1) p = (p, -1, 0) := by rw [runV, if_neg hs]
      have e3 : runV b p = (p, -1, 0) := by
        cases b with
        | zero => rfl
        | succ b => rw [runV, if_neg hs]
      rw [e1, e2]
      refine ⟨fun h => rfl, fun _ => ?_⟩
      show p = (runV b p).1 ∧ _ = (runV b p).2.1 ∧ _ = _ + (runV b p).2.2
      rw [e3]
      exact ⟨rfl, rfl, rfl⟩

/-! ### What a step does not look at -/
/-- another byte at k, another ID, another Keep -/
def Pt.other (p : Pt) (i : Int) (k : Nat) (x : UInt8) : Pt := { p with id := i, keep := !p.keep, mem := p.mem.modify k (· ^^^ x) }
theorem modify_at (m : List UInt8) (k j : Nat) (f : UInt8 → UInt8) : (m.modify k f)[j]? = if k = j then m[j]?.map f else m[j]? := by
  rw [List.getElem?_modify]
  split
  · rfl
  · cases m[j]? <;> rfl
theorem cut_other (m : List UInt8) (k a n : Nat) (f : UInt8 → UInt8) (h : k < a ∨ a + n ≤ k) : cut (m.modify k f) a n = cut m a n := by
  unfold cut
  apply List.ext_getElem?
  intro j
  rcases Nat.lt_or_ge j n with hj | hj
  · rw [List.getElem?_take_of_lt hj, List.getElem?_take_of_lt hj, List.getElem?_drop, List.getElem?_drop, modify_at, if_neg (by omega)]
  · rw [List.getElem?_eq_none (by simp; omega), List.getElem?_eq_none (by simp; omega)]
theorem put_other (m : List UInt8) (k a : Nat) (b : List UInt8) (f : UInt8 → UInt8) (hl : a + b.length ≤ m.length) (h : k < a ∨ a + b.length ≤ k) : put (m.modify k f) a b = (put m a b).modify k f := by
  apply List.ext_getElem?
  intro j
  rw [modify_at]
  by_cases hj : j < a ∨ a + b.length ≤ j
  · rw [put_get (by simp; omega) j hj, put_get hl j hj, modify_at]
  · rw [if_neg (by omega)]
    rw [put_in (by simp; omega) j (by omega) (by omega), put_in hl j (by omega) (by omega)]
theorem there_other (m : List UInt8) (k a n : Nat) (f : UInt8 → UInt8) : there (m.modify k f) a n = there m a n := by simp [there]
/-- the memory's instructions: lb, sb, lw, sw -/
def memB (op : Nat) : Bool := decide (13 ≤ op) && decide (op ≤ 16)
theorem does_other (x : Ins) (p : Pt) (i : Int) (k : Nat) (y : UInt8) (h : memB x.op = true → k < p.g x.b + x.n.toNat ∨ p.g x.b + x.n.toNat + 4 ≤ k) :
    does x (p.other i k y) = (does x p).map fun q => q.other i k y := by
  have g : ∀ a, (p.other i k y).g a = p.g a := fun a => rfl
  have hm : (p.other i k y).mem = p.mem.modify k (· ^^^ y) := rfl
  unfold does
  simp only
  by_cases h2 : x.op = 2
  · rw [if_pos h2, if_pos h2]; rfl
  rw [if_neg h2, if_neg h2]
  by_cases h3 : x.op = 3
  · rw [if_pos h3, if_pos h3]; rfl
  rw [if_neg h3, if_neg h3]
  by_cases h21 : x.op = 21
  · rw [if_pos h21, if_pos h21]; rfl
  rw [if_neg h21, if_neg h21]
  by_cases h4 : 4 ≤ x.op ∧ x.op ≤ 12
  · rw [if_pos h4, if_pos h4]; rfl
  rw [if_neg h4, if_neg h4]
  rw [hm, g]
  by_cases h13 : x.op = 13
  · rw [if_pos h13, if_pos h13, there_other]
    have hk := h (by simp [memB, h13])
    rw [cut_other _ _ _ _ _ (by omega)]
    split <;> rfl
  rw [if_neg h13, if_neg h13]
  by_cases h15 : x.op = 15
  · rw [if_pos h15, if_pos h15, there_other]
    have hk := h (by simp [memB, h15])
    rw [cut_other _ _ _ _ _ (by omega)]
    split <;> rfl
  rw [if_neg h15, if_neg h15]
  by_cases h14 : x.op = 14
  · rw [if_pos h14, if_pos h14, there_other]
    have hk := h (by simp [memB, h14])
    split
    · rename_i ht
      have := ((there_iff _ _ _).1 ht).2
      rw [put_other _ _ _ _ _ (by simpa using this) (by simp; omega)]
      rfl
    · rfl
  rw [if_neg h14, if_neg h14]
  by_cases h16 : x.op = 16
  · rw [if_pos h16, if_pos h16, there_other]
    have hk := h (by simp [memB, h16])
    split
    · rename_i ht
      have := ((there_iff _ _ _).1 ht).2
      rw [put_other _ _ _ _ _ (by simpa [word32] using this) (by simp [word32]; omega)]
      rfl
    · rfl
  rw [if_neg h16, if_neg h16]
  rfl
theorem step_other (p : Pt) (i : Int) (k : Nat) (y : UInt8) (x : Ins) (hf : fetch p = some x) (hk : k < p.pc ∨ p.pc + 4 ≤ k) (h : memB x.op = true → k < p.g x.b + x.n.toNat ∨ p.g x.b + x.n.toNat + 4 ≤ k) :
    stepV (p.other i k y) = ((stepV p).1.other i k y, (stepV p).2.1, (stepV p).2.2) := by
  have hf2 : fetch (p.other i k y) = some x := by
    rw [← hf]
    unfold fetch
    rw [show (p.other i k y).mem = p.mem.modify k (· ^^^ y) from rfl, show (p.other i k y).pc = p.pc from rfl, there_other, cut_other _ _ _ _ _ hk]
  unfold stepV
  rw [hf, hf2]
  dsimp only
  rw [does_other x p i k y h]
  rw [show (p.other i k y).st = p.st from rfl, show jumpsB x (p.other i k y) = jumpsB x p from rfl]
  split
  · rfl
  · split
    · split
      · rfl
      · cases does x p with
        | none => rfl
        | some q => rfl
    · rfl
theorem other_back (p : Pt) (i j : Int) (k : Nat) (y : UInt8) (hj : p.id = j) : (p.other i k y).other j k y = p := by
  obtain ⟨id, size, keep, r, pc, st, mem⟩ := p
  subst hj
  unfold Pt.other
  simp only [Bool.not_not, Pt.mk.injEq, true_and]
  apply List.ext_getElem?
  intro n
  rw [modify_at, modify_at]
  split
  · cases mem[n]? with
    | none => rfl
    | some v => simp [UInt8.xor_assoc]
  · rfl
end Go.Proofs.YtpcmnphohneddaaGreatDoor
