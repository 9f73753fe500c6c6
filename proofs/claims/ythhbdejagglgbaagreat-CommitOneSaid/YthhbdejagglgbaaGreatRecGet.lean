/- Commit records: Get on a disk that is up and has both sectors. -/
import Derived.Test.YthhbdejagglgbaaGreatRecP
import Derived.Test.YthhbdejagglgbaaGreatRecG
import Derived.Test.YthhbdejagglgbaaGreatRecEq
namespace Go.Proofs.YthhbdejagglgbaaGreat
open Go.RowKit
set_option linter.unusedVariables false

instance decRec : DecidableEq Rec := fun a b => decidable_of_iff (a.seqn = b.seqn ∧ a.slot = b.slot ∧ a.len = b.len ∧ a.trial = b.trial ∧ a.hash = b.hash) (by
  obtain ⟨a1, a2, a3, a4, a5⟩ := a
  obtain ⟨b1, b2, b3, b4, b5⟩ := b
  simp)

/-- the record of sector i -/
def cAt (D : Dk) (i : Nat) : Rec := if (recRd (D.at_ i)).2 = true ∧ (recRd (D.at_ i)).1.seqn % 2 = i then (recRd (D.at_ i)).1 else Rec.zero
/-- what Get tells of two sectors' records -/
def cTell (a b : Rec) : Rec × Rec × Int :=
  let p := if a.seqn < b.seqn then (b, a) else (a, b)
  if p.1 = Rec.zero then (p.1, p.2, 160) else if p.2.seqn ≠ p.1.seqn - 1 then (p.1, Rec.zero, 0) else (p.1, p.2, 0)

theorem chg_setCells (b : Nat) : ∀ (vs : List Value) (o : Nat) (w : World), Chg (fun k => k = b) w (w.setCells b o vs)
  | [], _, _ => Chg.refl _ _
  | v :: r, o, w => by
    rw [World.setCells]
    exact ((Chg.refl (fun k => k = b) w).setCell (p := ⟨b, o, none⟩) (.inl rfl) v).trans_same (chg_setCells b r (o + 1) _)

theorem wpList_store_midA {P : Program} {ops : Array Oper} {rest : List Oper} {op : Oper} {a : Act} {w : World} {Q : Exit → Act → World → Prop} (hgd : op.guard = none) (ty : TypeId) (x y : Operand) (ho : op.op = .store ty x y)
    (b o : Nat) (C : Array Value) (hx : a.eval x = .pointer (some ⟨b, o, none⟩)) (hy : a.eval y = .agg C) (ht : w.there b o C.size) (hi : (P.info? ty).map (·.size) = some C.size) (h1 : C.all (·.oneCell') = true)
    (h : ∀ W, Chg (fun k => k = b) w W → W.rangeAt b o C.toList → (∀ b' o' cs', w.rangeAt b' o' cs' → (b' ≠ b ∨ o' + cs'.length ≤ o ∨ o + C.toList.length ≤ o') → W.rangeAt b' o' cs') → (∀ b' o' n, w.there b' o' n → W.there b' o' n) → wpList P ops Q rest (a.put op.dst undef) W) :
    wpList P ops Q (op :: rest) a w :=
  wpList_store_mid hgd ty x y ho b o C hx hy ht hi h1 (h _ (chg_setCells b _ o w) (World.rangeAt_setCells_same w b o C.toList (by rw [Array.length_toList]; exact ht)) (fun b' o' cs' hr hap => World.rangeAt_setCells_apart hr b o C.toList hap) (fun b' o' n hn => World.there_setCells hn b o C.toList))

/-- what holds at the head of Get's loop -/
def GetInv (D : Dk) (w : World) (k : Nat) (wr : World) : Prop :=
  Two w.heap.size (w.heap.size + 1) recZ recZ wr ∧ wr.there (w.heap.size + 1 + 1) 0 72 ∧ wr.rangeAt (w.heap.size + 1 + 1) 0 (recA (if 0 < k then cAt D 0 else Rec.zero)).toList ∧
    wr.rangeAt (w.heap.size + 1 + 1) 36 (recA (if 1 < k then cAt D 1 else Rec.zero)).toList ∧ Chg Non w wr

theorem recRd_hash (s : List UInt8) : (recRd s).1.hash.length = 32 := recFields_hash _
theorem recRd_may {s : List UInt8} (h : (recRd s).2 = true) : (recRd s).1.may = true := by
  unfold recRd at h ⊢
  simp only [Bool.and_eq_true] at h
  exact h.2
theorem cAt_hash (D : Dk) (i : Nat) : (cAt D i).hash.length = 32 := by
  unfold cAt
  split
  · exact recRd_hash _
  · exact zTag_len
theorem cbounds_i64 (n : Nat) : -9223372036854775808 ≤ i64 n ∧ i64 n ≤ 9223372036854775807 := by
  unfold i64 wrap64
  omega
theorem crdInt_bd (l : List UInt8) (er : Int) : -9223372036854775808 ≤ (rdInt l er).1 ∧ (rdInt l er).1 ≤ 9223372036854775807 := by
  unfold rdInt
  split
  · split
    · exact cbounds_i64 _
    · simp
  · simp
theorem recRd_bd (s : List UInt8) : (recRd s).1.Bd := by
  refine ⟨recRd_hash s, ?_, ?_, ?_⟩
  · exact crdInt_bd _ _
  · obtain ⟨b, hb⟩ : ∃ b : UInt8, (recRd s).1.slot = (b.toNat : Int) := ⟨_, rfl⟩
    rw [hb]
    have := b.toNat_lt
    omega
  · exact crdInt_bd _ _
theorem cAt_bd (D : Dk) (i : Nat) : (cAt D i).Bd := by
  unfold cAt
  split
  · exact recRd_bd _
  · exact zero_bd
theorem cAt_seqn (D : Dk) (i : Nat) : 0 ≤ (cAt D i).seqn := by
  unfold cAt
  split
  · rename_i h
    have := (may_true (recRd_may h.1)).1
    omega
  · simp [Rec.zero]
theorem cat_len (D : Dk) (hok : D.Ok) (i : Nat) (hi : i < D.sec.length) : (D.at_ i).length = 64 := by
  unfold Dk.at_
  cases hl : look D.cache i with
  | some l =>
    unfold look at hl
    obtain ⟨p, hp, rfl⟩ := Option.map_eq_some_iff.1 hl
    exact (hok.keys p (List.mem_of_find?_eq_some hp)).2
  | none =>
    simp only [Option.getD_none, List.getD, List.getElem?_eq_getElem hi, Option.getD_some]
    exact hok.secs _ (List.getElem_mem hi)

theorem getInv_done {D : Dk} {w wr W : World} {k : Nat} (h : GetInv D w k wr) (hk : k = 0 ∨ k = 1) (hg : Chg Non wr W) (hz : cAt D k = Rec.zero) : GetInv D w (k + 1) W := by
  obtain ⟨h1, h2, h3, h4, h5⟩ := h
  have hr : ∀ o cs, wr.rangeAt (w.heap.size + 1 + 1) o cs → W.rangeAt (w.heap.size + 1 + 1) o cs := fun o cs hq j v hv => hg.cell_some (hq j v hv) (fun e => e)
  refine ⟨h1.non hg, fun j hj => ?_, ?_, ?_, h5.then_non hg⟩
  · obtain ⟨a1, a2⟩ := h2 j hj
    obtain ⟨u, hu⟩ := Option.isSome_iff_exists.1 a1
    exact ⟨by rw [hg.cell_some hu (fun e => e)]; rfl, (hg.frozen (lt_of_cell hu) (fun e => e)).trans a2⟩
  · rcases hk with rfl | rfl
    · have := hr _ _ h3
      simpa [hz] using this
    · simpa using hr _ _ h3
  · rcases hk with rfl | rfl
    · simpa using hr _ _ h4
    · have := hr _ _ h4
      simpa [hz] using this

theorem range_non {w W : World} {b o : Nat} {cs : List Value} (hg : Chg Non w W) (h : w.rangeAt b o cs) : W.rangeAt b o cs := fun j v hv => hg.cell_some (h j v hv) (fun e => e)
theorem there_non {w W : World} {b o n : Nat} (hg : Chg Non w W) (h : w.there b o n) : W.there b o n := fun j hj => by
  obtain ⟨a1, a2⟩ := h j hj
  obtain ⟨u, hu⟩ := Option.isSome_iff_exists.1 a1
  exact ⟨by rw [hg.cell_some hu (fun e => e)]; rfl, (hg.frozen (lt_of_cell hu) (fun e => e)).trans a2⟩

theorem there_part {w : World} {b n : Nat} (h : w.there b 0 n) (o m : Nat) (hm : o + m ≤ n) : w.there b o m := fun j hj => by
  have := h (o + j) (by omega)
  rw [Nat.zero_add] at this
  exact this
theorem getInv_on {D : Dk} {w wr W0 W : World} {k : Nat} (h : GetInv D w k wr) (hk : k = 0 ∨ k = 1) (hg : Chg Non wr W0) (hgW : Chg (fun x => x = w.heap.size + 1 + 1) W0 W)
    (hr : W.rangeAt (w.heap.size + 1 + 1) (36 * k) (recA (cAt D k)).toList)
    (hap : ∀ b' o' cs', W0.rangeAt b' o' cs' → (b' ≠ w.heap.size + 1 + 1 ∨ o' + cs'.length ≤ 36 * k ∨ 36 * k + (recA (cAt D k)).toList.length ≤ o') → W.rangeAt b' o' cs') (hth : ∀ b' o' n, W0.there b' o' n → W.there b' o' n) : GetInv D w (k + 1) W := by
  obtain ⟨h1, h2, h3, h4, h5⟩ := h
  have hl : (recA (cAt D k)).toList.length = 36 := by rw [Array.length_toList, recA_size _ (cAt_hash D k)]
  have hz : (recA Rec.zero).toList.length = 36 := by rw [Array.length_toList]; exact recZ_size
  have hl0 : (recA (cAt D 0)).toList.length = 36 := by rw [Array.length_toList, recA_size _ (cAt_hash D 0)]
  refine ⟨(h1.non hg).keep hgW (by omega) (by omega), hth _ _ _ (there_non hg h2), ?_, ?_, (h5.then_non hg).then_new hgW (fun x e => by omega)⟩
  · rcases hk with rfl | rfl
    · simpa using hr
    · have := hap _ _ _ (range_non hg h3) (.inr (.inl (by simp [hl0])))
      simpa using this
  · rcases hk with rfl | rfl
    · have := hap _ _ _ (range_non hg h4) (.inr (.inr (by simp [hl])))
      simpa using this
    · simpa using hr

theorem zero72 : #[(.int .i64 0 : Value), (.int .i64 0 : Value), (.int .i64 0 : Value), .bool false, .int .u8 0, .int .u8 0, .int .u8 0, .int .u8 0, .int .u8 0, .int .u8 0, .int .u8 0, .int .u8 0, .int .u8 0, .int .u8 0, .int .u8 0, .int .u8 0, .int .u8 0, .int .u8 0, .int .u8 0, .int .u8 0, .int .u8 0, .int .u8 0, .int .u8 0, .int .u8 0, .int .u8 0, .int .u8 0, .int .u8 0, .int .u8 0, .int .u8 0, .int .u8 0, .int .u8 0, .int .u8 0, .int .u8 0, .int .u8 0, .int .u8 0, .int .u8 0, (.int .i64 0 : Value), (.int .i64 0 : Value), (.int .i64 0 : Value), .bool false, .int .u8 0, .int .u8 0, .int .u8 0, .int .u8 0, .int .u8 0, .int .u8 0, .int .u8 0, .int .u8 0, .int .u8 0, .int .u8 0, .int .u8 0, .int .u8 0, .int .u8 0, .int .u8 0, .int .u8 0, .int .u8 0, .int .u8 0, .int .u8 0, .int .u8 0, .int .u8 0, .int .u8 0, .int .u8 0, .int .u8 0, .int .u8 0, .int .u8 0, .int .u8 0, .int .u8 0, .int .u8 0, .int .u8 0, .int .u8 0, .int .u8 0, .int .u8 0] = recZ ++ recZ := by kernel_rfl
theorem zero72a (j : Nat) (v : Value) (h : recZ[j]? = some v) : ((#[(.int .i64 0 : Value), (.int .i64 0 : Value), (.int .i64 0 : Value), .bool false, .int .u8 0, .int .u8 0, .int .u8 0, .int .u8 0, .int .u8 0, .int .u8 0, .int .u8 0, .int .u8 0, .int .u8 0, .int .u8 0, .int .u8 0, .int .u8 0, .int .u8 0, .int .u8 0, .int .u8 0, .int .u8 0, .int .u8 0, .int .u8 0, .int .u8 0, .int .u8 0, .int .u8 0, .int .u8 0, .int .u8 0, .int .u8 0, .int .u8 0, .int .u8 0, .int .u8 0, .int .u8 0, .int .u8 0, .int .u8 0, .int .u8 0, .int .u8 0, (.int .i64 0 : Value), (.int .i64 0 : Value), (.int .i64 0 : Value), .bool false, .int .u8 0, .int .u8 0, .int .u8 0, .int .u8 0, .int .u8 0, .int .u8 0, .int .u8 0, .int .u8 0, .int .u8 0, .int .u8 0, .int .u8 0, .int .u8 0, .int .u8 0, .int .u8 0, .int .u8 0, .int .u8 0, .int .u8 0, .int .u8 0, .int .u8 0, .int .u8 0, .int .u8 0, .int .u8 0, .int .u8 0, .int .u8 0, .int .u8 0, .int .u8 0, .int .u8 0, .int .u8 0, .int .u8 0, .int .u8 0, .int .u8 0, .int .u8 0] : Array Value))[0 + j]? = some v := by
  rw [zero72, Nat.zero_add, Array.getElem?_append_left (Array.getElem?_eq_some_iff.1 h).1]
  exact h
theorem zero72c (j : Nat) (h : j < 72) : (((#[(.int .i64 0 : Value), (.int .i64 0 : Value), (.int .i64 0 : Value), .bool false, .int .u8 0, .int .u8 0, .int .u8 0, .int .u8 0, .int .u8 0, .int .u8 0, .int .u8 0, .int .u8 0, .int .u8 0, .int .u8 0, .int .u8 0, .int .u8 0, .int .u8 0, .int .u8 0, .int .u8 0, .int .u8 0, .int .u8 0, .int .u8 0, .int .u8 0, .int .u8 0, .int .u8 0, .int .u8 0, .int .u8 0, .int .u8 0, .int .u8 0, .int .u8 0, .int .u8 0, .int .u8 0, .int .u8 0, .int .u8 0, .int .u8 0, .int .u8 0, (.int .i64 0 : Value), (.int .i64 0 : Value), (.int .i64 0 : Value), .bool false, .int .u8 0, .int .u8 0, .int .u8 0, .int .u8 0, .int .u8 0, .int .u8 0, .int .u8 0, .int .u8 0, .int .u8 0, .int .u8 0, .int .u8 0, .int .u8 0, .int .u8 0, .int .u8 0, .int .u8 0, .int .u8 0, .int .u8 0, .int .u8 0, .int .u8 0, .int .u8 0, .int .u8 0, .int .u8 0, .int .u8 0, .int .u8 0, .int .u8 0, .int .u8 0, .int .u8 0, .int .u8 0, .int .u8 0, .int .u8 0, .int .u8 0, .int .u8 0] : Array Value))[0 + j]?).isSome = true := by
  rw [zero72, Nat.zero_add, Array.getElem?_eq_getElem (by rw [Array.size_append, recZ_size]; exact h)]
  rfl
theorem zero72b (j : Nat) (v : Value) (h : recZ[j]? = some v) : ((#[(.int .i64 0 : Value), (.int .i64 0 : Value), (.int .i64 0 : Value), .bool false, .int .u8 0, .int .u8 0, .int .u8 0, .int .u8 0, .int .u8 0, .int .u8 0, .int .u8 0, .int .u8 0, .int .u8 0, .int .u8 0, .int .u8 0, .int .u8 0, .int .u8 0, .int .u8 0, .int .u8 0, .int .u8 0, .int .u8 0, .int .u8 0, .int .u8 0, .int .u8 0, .int .u8 0, .int .u8 0, .int .u8 0, .int .u8 0, .int .u8 0, .int .u8 0, .int .u8 0, .int .u8 0, .int .u8 0, .int .u8 0, .int .u8 0, .int .u8 0, (.int .i64 0 : Value), (.int .i64 0 : Value), (.int .i64 0 : Value), .bool false, .int .u8 0, .int .u8 0, .int .u8 0, .int .u8 0, .int .u8 0, .int .u8 0, .int .u8 0, .int .u8 0, .int .u8 0, .int .u8 0, .int .u8 0, .int .u8 0, .int .u8 0, .int .u8 0, .int .u8 0, .int .u8 0, .int .u8 0, .int .u8 0, .int .u8 0, .int .u8 0, .int .u8 0, .int .u8 0, .int .u8 0, .int .u8 0, .int .u8 0, .int .u8 0, .int .u8 0, .int .u8 0, .int .u8 0, .int .u8 0, .int .u8 0, .int .u8 0] : Array Value))[36 + j]? = some v := by
  rw [zero72, Array.getElem?_append_right (by rw [recZ_size]; omega), recZ_size, Nat.add_sub_cancel_left]
  exact h
theorem range_keep {T : Nat → Prop} {w W : World} {b o : Nat} {cs : List Value} (hg : Chg T w W) (h : w.rangeAt b o cs) (hb : ¬ T b) : W.rangeAt b o cs := fun j v hv => hg.cell_some (h j v hv) hb

theorem ret3 {a b : Array Value} {x : Int} {a' b' : Array Value} {x' : Int} (h1 : a = a') (h2 : b = b') (h3 : x = x') : Ending.returned (.tuple #[.agg a, .agg b, .int .i64 x]) = .returned (.tuple #[.agg a', .agg b', .int .i64 x']) := by rw [h1, h2, h3]
section
variable {R0 R1 : Rec} {X0 X1 : Array Value} {l m : Int}
theorem cfin_n_z (h0 : recA R0 = X0) (h1 : recA R1 = X1) (hlt : ¬ R0.seqn < R1.seqn) (hz : R0 = Rec.zero) : Ending.returned (.tuple #[.agg X0, .agg X1, .int .i64 160]) = .returned (.tuple #[.agg (recA (cTell R0 R1).1), .agg (recA (cTell R0 R1).2.1), .int .i64 (cTell R0 R1).2.2]) := by
  have e : cTell R0 R1 = (R0, R1, 160) := by
    unfold cTell
    rw [if_neg hlt]
    exact if_pos hz
  rw [e]
  exact ret3 h0.symm h1.symm rfl
theorem cfin_n_eq (h0 : recA R0 = X0) (h1 : recA R1 = X1) (hlt : ¬ R0.seqn < R1.seqn) (hz : ¬ R0 = Rec.zero) (hm : R1.seqn = m) (hl : R0.seqn = l) (hn : m = l - 1) : Ending.returned (.tuple #[.agg X0, .agg X1, .int .i64 0]) = .returned (.tuple #[.agg (recA (cTell R0 R1).1), .agg (recA (cTell R0 R1).2.1), .int .i64 (cTell R0 R1).2.2]) := by
  have e : cTell R0 R1 = (R0, R1, 0) := by
    unfold cTell
    rw [if_neg hlt]
    exact (if_neg hz).trans (if_neg (by show ¬ (R1.seqn ≠ R0.seqn - 1); omega))
  rw [e]
  exact ret3 h0.symm h1.symm rfl
theorem cfin_n_ne (h0 : recA R0 = X0) (h1 : recA R1 = X1) (hlt : ¬ R0.seqn < R1.seqn) (hz : ¬ R0 = Rec.zero) (hm : R1.seqn = m) (hl : R0.seqn = l) (hn : ¬ m = l - 1) : Ending.returned (.tuple #[.agg X0, .agg recZ, .int .i64 0]) = .returned (.tuple #[.agg (recA (cTell R0 R1).1), .agg (recA (cTell R0 R1).2.1), .int .i64 (cTell R0 R1).2.2]) := by
  have e : cTell R0 R1 = (R0, Rec.zero, 0) := by
    unfold cTell
    rw [if_neg hlt]
    exact (if_neg hz).trans (if_pos (by show R1.seqn ≠ R0.seqn - 1; omega))
  rw [e]
  exact ret3 h0.symm rfl rfl
theorem cfin_s_z (h0 : recA R0 = X0) (h1 : recA R1 = X1) (hlt : R0.seqn < R1.seqn) (hz : R1 = Rec.zero) : Ending.returned (.tuple #[.agg X1, .agg X0, .int .i64 160]) = .returned (.tuple #[.agg (recA (cTell R0 R1).1), .agg (recA (cTell R0 R1).2.1), .int .i64 (cTell R0 R1).2.2]) := by
  have e : cTell R0 R1 = (R1, R0, 160) := by
    unfold cTell
    rw [if_pos hlt]
    exact if_pos hz
  rw [e]
  exact ret3 h1.symm h0.symm rfl
theorem cfin_s_eq (h0 : recA R0 = X0) (h1 : recA R1 = X1) (hlt : R0.seqn < R1.seqn) (hz : ¬ R1 = Rec.zero) (hm : R0.seqn = m) (hl : R1.seqn = l) (hn : m = l - 1) : Ending.returned (.tuple #[.agg X1, .agg X0, .int .i64 0]) = .returned (.tuple #[.agg (recA (cTell R0 R1).1), .agg (recA (cTell R0 R1).2.1), .int .i64 (cTell R0 R1).2.2]) := by
  have e : cTell R0 R1 = (R1, R0, 0) := by
    unfold cTell
    rw [if_pos hlt]
    exact (if_neg hz).trans (if_neg (by show ¬ (R0.seqn ≠ R1.seqn - 1); omega))
  rw [e]
  exact ret3 h1.symm h0.symm rfl
theorem cfin_s_ne (h0 : recA R0 = X0) (h1 : recA R1 = X1) (hlt : R0.seqn < R1.seqn) (hz : ¬ R1 = Rec.zero) (hm : R0.seqn = m) (hl : R1.seqn = l) (hn : ¬ m = l - 1) : Ending.returned (.tuple #[.agg X1, .agg recZ, .int .i64 0]) = .returned (.tuple #[.agg (recA (cTell R0 R1).1), .agg (recA (cTell R0 R1).2.1), .int .i64 (cTell R0 R1).2.2]) := by
  have e : cTell R0 R1 = (R1, Rec.zero, 0) := by
    unfold cTell
    rw [if_pos hlt]
    exact (if_neg hz).trans (if_pos (by show R0.seqn ≠ R1.seqn - 1; omega))
  rw [e]
  exact ret3 h1.symm rfl rfl
end

set_option maxRecDepth 100000 in
set_option maxHeartbeats 4000000 in
theorem cGet_up (pd ps pm : Nat) (D : Dk) (w : World) (h : IsD w pd ps pm D) (hup : D.up = true) (hlen : 2 ≤ D.sec.length) :
    Calls Tryz.prog 9 #[.pointer (some ⟨pd, 0, none⟩)] w fun e w' => e = .returned (.tuple #[.agg (recA (cTell (cAt D 0) (cAt D 1)).1), .agg (recA (cTell (cAt D 0) (cAt D 1)).2.1), .int .i64 (cTell (cAt D 0) (cAt D 1)).2.2]) ∧ Chg Non w w' := by
  have HL := Lib.hid (fun W hg => Len_ok pd ps pm D W (h.non hg))
  have hlz : ((D.sec.length : Int) == 0) = false := beq_eq_false_iff_ne.2 (by omega)
  have HRd0 := Lib.hid (fun W hg => Read_any pd ps pm D 0 W (h.non hg) hup (by omega))
  have HRd1 := Lib.hid (fun W hg => Read_any pd ps pm D 1 W (h.non hg) hup (by omega))
  have hl0 := cat_len D h.1 0 (by omega)
  have hl1 := cat_len D h.1 1 (by omega)
  have HR0 := Lib.hid (fun A c W (h1 : Rd W A (D.at_ 0)) (h2 : (D.at_ 0).length ≤ c) (h3 : c ≤ maxLen) => recRead_any A (D.at_ 0) c W h1 (by omega) (by omega) h2 h3)
  have HR1 := Lib.hid (fun A c W (h1 : Rd W A (D.at_ 1)) (h2 : (D.at_ 1).length ≤ c) (h3 : c ≤ maxLen) => recRead_any A (D.at_ 1) c W h1 (by omega) (by omega) h2 h3)
  clear hl0 hl1 h hup
  go_enter Tryz.func9, Tryz.ntmps9
  go_wp2_with fail
  refine (HL.out _ (((Chg.refl Non w).alloc _).alloc _)).mono ?_
  rintro e w' ⟨rfl, rfl⟩
  go_wp2_with fail
  go_loopw [16] (fun i wr => ∃ k : Nat, k ≤ 2 ∧ i = .int .i64 k ∧ GetInv D w k wr) (fun i _ => 2 - (intOf i).toNat)
  case atStart =>
    refine ⟨0, by omega, rfl, ?_⟩
    have e2 : ∀ o o' : Obj, ((w.alloc o).alloc o').heap.size = w.heap.size + 1 + 1 := fun o o' => by simp
    have b5 : ∀ o o' o'' : Obj, (((w.alloc o).alloc o').alloc o'').heap[w.heap.size + 1 + 1]? = some o'' := fun o o' o'' => by
      have := heap_alloc_new ((w.alloc o).alloc o') o''
      rw [e2] at this
      exact this
    refine ⟨⟨?_, ?_⟩, ?_, ?_, ?_, ((((Chg.refl Non w).alloc _).alloc _).alloc _)⟩
    · rw [Below.heap_alloc _ _ _ (by rw [e2]; omega)]; exact heap_alloc2_old _ _ _
    · rw [Below.heap_alloc _ _ _ (by rw [e2]; omega)]; exact heap_alloc2_new _ _ _
    · intro j hj
      rw [cell_of_row _ _ _ _ _ _ (b5 _ _ _)]
      exact ⟨zero72c j hj, frozen_of_row _ _ _ _ _ (b5 _ _ _)⟩
    · intro j v hv
      rw [cell_of_row _ _ _ _ _ _ (b5 _ _ _)]
      exact zero72a j v (show (recA Rec.zero)[j]? = some v by simpa using hv)
    · intro j v hv
      rw [cell_of_row _ _ _ _ _ _ (b5 _ _ _)]
      exact zero72b j v (show (recA Rec.zero)[j]? = some v by simpa using hv)
  case round =>
    obtain ⟨k, hk, rfl, hI⟩ := hrel
    have HI := Lib.hid hI
    clear hI
    by_cases hk2 : k < 2
    · obtain rfl | rfl : k = 0 ∨ k = 1 := by omega
      · by_cases hok : (recRd (D.at_ 0)).2 = true
        · by_cases hsq : (recRd (D.at_ 0)).1.seqn % 2 = 0
          · skip
            have HR := Lib.hid (fun A c W h1 h2 h3 => (HR0.out A c W h1 h2 h3))
            rw [hok] at HR
            have HXS := Lib.hid (recA_size _ (recRd_hash (D.at_ 0)))
            have HX1 := Lib.hid (recA_one (recRd (D.at_ 0)).1)
            have HX0 := Lib.hid (recA_0 (recRd (D.at_ 0)).1)
            have HCA : Hid (cAt D 0 = (recRd (D.at_ 0)).1) := Lib.hid (by unfold cAt; rw [if_pos ⟨hok, hsq⟩])
            have hq : ((recRd (D.at_ 0)).1.seqn % 2 == 0) = true := by rw [beq_iff_eq]; exact hsq
            have h0 := (may_true (recRd_may hok)).1
            obtain ⟨sq, hsqq⟩ : ∃ sq, (recRd (D.at_ 0)).1.seqn = sq := ⟨_, rfl⟩
            rw [hsqq] at h0 hq HX0
            have h00 : 0 ≤ sq := by omega
            have htm : sq.tmod 2 = sq % 2 := Int.tmod_eq_emod_of_nonneg h00
            have hr0 : 0 ≤ sq % 2 := by omega
            have hr1 : sq % 2 < 2 := by omega
            have hwr : IntKind.i64.wrap (sq % 2) = sq % 2 := Go.IntWalk.i64_in _ (by omega)
            obtain ⟨X, hX⟩ : ∃ X, recA (recRd (D.at_ 0)).1 = X := ⟨_, rfl⟩
            rw [hX] at HR HXS HX1 HX0
            have HCX : Hid (recA (cAt D 0) = X) := Lib.hid (by rw [HCA.out]; exact hX)
            clear hX hok hsq hsqq h0
            go_wp2_with fail
            refine (HRd0.out wr HI.out.2.2.2.2).mono ?_
            rintro e w1 ⟨A1, c1, rfl, hc1, hm1, ho1, hg1⟩
            go_wp2_with fail
            refine (HR.out A1 c1 w1 ho1.rd hc1 hm1).mono ?_
            rintro e w2 ⟨rfl, hg2⟩
            have hgr : Chg Non wr w2 := hg1.then_non hg2
            go_wp2_with (first
              | (refine sel none (.store 25 (.tmp 9) (.tmp 34)) ?_
                 refine wpList_store_rowA rfl 25 (.tmp 9) (.tmp 34) rfl w2.heap.size X rfl rfl 25 _ (heap_alloc_new _ _) (by rw [HXS.out]; exact info_rec) (by rw [HXS.out]; rfl) HX1.out ?_
                 intro W hgW hbW
                 have HB := Lib.hid hbW
                 have HGW := Lib.hid ((hgr.alloc _).then_new hgW (fun x e => by have := hgr.size; omega))
                 have kq : W.cell? ⟨w2.heap.size, 0, none⟩ = some (.int .i64 sq) := by rw [cell_of_row _ _ _ _ _ _ hbW]; exact HX0.out
                 clear hgW hbW)
              | (refine sel (some 45) (.load 25 (.tmp 9)) ?_
                 refine wpList_load_rec rfl (.tmp 9) rfl w2.heap.size 0 rfl X (range_block HB.out) HXS.out ?_)
              | (refine sel none (.store 25 (.tmp 46) (.tmp 45)) ?_
                 refine wpList_store_midA rfl 25 (.tmp 46) (.tmp 45) rfl (w.heap.size + 1 + 1) 0 X rfl rfl (by rw [HXS.out]; exact there_part (there_non HGW.out HI.out.2.1) 0 36 (by omega)) (by rw [HXS.out]; exact info_rec) HX1.out ?_
                 intro W2 hgW2 hr2 hap2 hth2
                 have HGW2 := Lib.hid hgW2
                 have HR2 := Lib.hid hr2
                 have HAP2 := Lib.hid hap2
                 have HTH2 := Lib.hid hth2
                 clear hgW2 hr2 hap2 hth2))
            rw [← HCX.out] at HR2 HAP2
            exact ⟨⟨1, by omega, rfl, getInv_on HI.out (.inl rfl) HGW.out HGW2.out HR2.out HAP2.out HTH2.out⟩, by simp [intOf]⟩
          · skip
            have HR := Lib.hid (fun A c W h1 h2 h3 => (HR0.out A c W h1 h2 h3))
            rw [hok] at HR
            have HXS := Lib.hid (recA_size _ (recRd_hash (D.at_ 0)))
            have HX1 := Lib.hid (recA_one (recRd (D.at_ 0)).1)
            have HX0 := Lib.hid (recA_0 (recRd (D.at_ 0)).1)
            have HCZ : Hid (cAt D 0 = Rec.zero) := Lib.hid (by unfold cAt; rw [if_neg (fun e => hsq e.2)])
            have hq : ((recRd (D.at_ 0)).1.seqn % 2 == 0) = false := by rw [beq_eq_false_iff_ne]; exact hsq
            have h0 := (may_true (recRd_may hok)).1
            obtain ⟨sq, hsqq⟩ : ∃ sq, (recRd (D.at_ 0)).1.seqn = sq := ⟨_, rfl⟩
            rw [hsqq] at h0 hq HX0
            have h00 : 0 ≤ sq := by omega
            have htm : sq.tmod 2 = sq % 2 := Int.tmod_eq_emod_of_nonneg h00
            have hr0 : 0 ≤ sq % 2 := by omega
            have hr1 : sq % 2 < 2 := by omega
            have hwr : IntKind.i64.wrap (sq % 2) = sq % 2 := Go.IntWalk.i64_in _ (by omega)
            obtain ⟨X, hX⟩ : ∃ X, recA (recRd (D.at_ 0)).1 = X := ⟨_, rfl⟩
            rw [hX] at HR HXS HX1 HX0
            clear hX hok hsq hsqq h0
            go_wp2_with fail
            refine (HRd0.out wr HI.out.2.2.2.2).mono ?_
            rintro e w1 ⟨A1, c1, rfl, hc1, hm1, ho1, hg1⟩
            go_wp2_with fail
            refine (HR.out A1 c1 w1 ho1.rd hc1 hm1).mono ?_
            rintro e w2 ⟨rfl, hg2⟩
            have hgr : Chg Non wr w2 := hg1.then_non hg2
            go_wp2_with (first
              | (refine sel none (.store 25 (.tmp 9) (.tmp 34)) ?_
                 refine wpList_store_rowA rfl 25 (.tmp 9) (.tmp 34) rfl w2.heap.size X rfl rfl 25 _ (heap_alloc_new _ _) (by rw [HXS.out]; exact info_rec) (by rw [HXS.out]; rfl) HX1.out ?_
                 intro W hgW hbW
                 have HB := Lib.hid hbW
                 have HGW := Lib.hid ((hgr.alloc _).then_new hgW (fun x e => by have := hgr.size; omega))
                 have kq : W.cell? ⟨w2.heap.size, 0, none⟩ = some (.int .i64 sq) := by rw [cell_of_row _ _ _ _ _ _ hbW]; exact HX0.out
                 clear hgW hbW))
            exact ⟨⟨1, by omega, rfl, getInv_done HI.out (.inl rfl) HGW.out HCZ.out⟩, by simp [intOf]⟩
        · skip
          have hkf : (recRd (D.at_ 0)).2 = false := by simpa using hok
          have HR := Lib.hid (fun A c W h1 h2 h3 => (HR0.out A c W h1 h2 h3))
          rw [hkf] at HR
          have HXS := Lib.hid (recA_size _ (recRd_hash (D.at_ 0)))
          have HX1 := Lib.hid (recA_one (recRd (D.at_ 0)).1)
          have HX0 := Lib.hid (recA_0 (recRd (D.at_ 0)).1)
          have HCZ : Hid (cAt D 0 = Rec.zero) := Lib.hid (by unfold cAt; rw [if_neg (fun e => hok e.1)])
          obtain ⟨X, hX⟩ : ∃ X, recA (recRd (D.at_ 0)).1 = X := ⟨_, rfl⟩
          rw [hX] at HR HXS HX1 HX0
          clear hX hok hkf
          go_wp2_with fail
          refine (HRd0.out wr HI.out.2.2.2.2).mono ?_
          rintro e w1 ⟨A1, c1, rfl, hc1, hm1, ho1, hg1⟩
          go_wp2_with fail
          refine (HR.out A1 c1 w1 ho1.rd hc1 hm1).mono ?_
          rintro e w2 ⟨rfl, hg2⟩
          have hgr : Chg Non wr w2 := hg1.then_non hg2
          go_wp2_with (first
            | (refine sel none (.store 25 (.tmp 9) (.tmp 34)) ?_
               refine wpList_store_rowA rfl 25 (.tmp 9) (.tmp 34) rfl w2.heap.size X rfl rfl 25 _ (heap_alloc_new _ _) (by rw [HXS.out]; exact info_rec) (by rw [HXS.out]; rfl) HX1.out ?_
               intro W hgW hbW
               have HB := Lib.hid hbW
               have HGW := Lib.hid ((hgr.alloc _).then_new hgW (fun x e => by have := hgr.size; omega))
               clear hgW hbW))
          exact ⟨⟨1, by omega, rfl, getInv_done HI.out (.inl rfl) HGW.out HCZ.out⟩, by simp [intOf]⟩
      · by_cases hok : (recRd (D.at_ 1)).2 = true
        · by_cases hsq : (recRd (D.at_ 1)).1.seqn % 2 = 1
          · skip
            have HR := Lib.hid (fun A c W h1 h2 h3 => (HR1.out A c W h1 h2 h3))
            rw [hok] at HR
            have HXS := Lib.hid (recA_size _ (recRd_hash (D.at_ 1)))
            have HX1 := Lib.hid (recA_one (recRd (D.at_ 1)).1)
            have HX0 := Lib.hid (recA_0 (recRd (D.at_ 1)).1)
            have HCA : Hid (cAt D 1 = (recRd (D.at_ 1)).1) := Lib.hid (by unfold cAt; rw [if_pos ⟨hok, hsq⟩])
            have hq : ((recRd (D.at_ 1)).1.seqn % 2 == 1) = true := by rw [beq_iff_eq]; exact hsq
            have h0 := (may_true (recRd_may hok)).1
            obtain ⟨sq, hsqq⟩ : ∃ sq, (recRd (D.at_ 1)).1.seqn = sq := ⟨_, rfl⟩
            rw [hsqq] at h0 hq HX0
            have h00 : 0 ≤ sq := by omega
            have htm : sq.tmod 2 = sq % 2 := Int.tmod_eq_emod_of_nonneg h00
            have hr0 : 0 ≤ sq % 2 := by omega
            have hr1 : sq % 2 < 2 := by omega
            have hwr : IntKind.i64.wrap (sq % 2) = sq % 2 := Go.IntWalk.i64_in _ (by omega)
            obtain ⟨X, hX⟩ : ∃ X, recA (recRd (D.at_ 1)).1 = X := ⟨_, rfl⟩
            rw [hX] at HR HXS HX1 HX0
            have HCX : Hid (recA (cAt D 1) = X) := Lib.hid (by rw [HCA.out]; exact hX)
            clear hX hok hsq hsqq h0
            go_wp2_with fail
            refine (HRd1.out wr HI.out.2.2.2.2).mono ?_
            rintro e w1 ⟨A1, c1, rfl, hc1, hm1, ho1, hg1⟩
            go_wp2_with fail
            refine (HR.out A1 c1 w1 ho1.rd hc1 hm1).mono ?_
            rintro e w2 ⟨rfl, hg2⟩
            have hgr : Chg Non wr w2 := hg1.then_non hg2
            go_wp2_with (first
              | (refine sel none (.store 25 (.tmp 9) (.tmp 34)) ?_
                 refine wpList_store_rowA rfl 25 (.tmp 9) (.tmp 34) rfl w2.heap.size X rfl rfl 25 _ (heap_alloc_new _ _) (by rw [HXS.out]; exact info_rec) (by rw [HXS.out]; rfl) HX1.out ?_
                 intro W hgW hbW
                 have HB := Lib.hid hbW
                 have HGW := Lib.hid ((hgr.alloc _).then_new hgW (fun x e => by have := hgr.size; omega))
                 have kq : W.cell? ⟨w2.heap.size, 0, none⟩ = some (.int .i64 sq) := by rw [cell_of_row _ _ _ _ _ _ hbW]; exact HX0.out
                 clear hgW hbW)
              | (refine sel (some 45) (.load 25 (.tmp 9)) ?_
                 refine wpList_load_rec rfl (.tmp 9) rfl w2.heap.size 0 rfl X (range_block HB.out) HXS.out ?_)
              | (refine sel none (.store 25 (.tmp 46) (.tmp 45)) ?_
                 refine wpList_store_midA rfl 25 (.tmp 46) (.tmp 45) rfl (w.heap.size + 1 + 1) 36 X rfl rfl (by rw [HXS.out]; exact there_part (there_non HGW.out HI.out.2.1) 36 36 (by omega)) (by rw [HXS.out]; exact info_rec) HX1.out ?_
                 intro W2 hgW2 hr2 hap2 hth2
                 have HGW2 := Lib.hid hgW2
                 have HR2 := Lib.hid hr2
                 have HAP2 := Lib.hid hap2
                 have HTH2 := Lib.hid hth2
                 clear hgW2 hr2 hap2 hth2))
            rw [← HCX.out] at HR2 HAP2
            exact ⟨⟨2, by omega, rfl, getInv_on HI.out (.inr rfl) HGW.out HGW2.out HR2.out HAP2.out HTH2.out⟩, by simp [intOf]⟩
          · skip
            have HR := Lib.hid (fun A c W h1 h2 h3 => (HR1.out A c W h1 h2 h3))
            rw [hok] at HR
            have HXS := Lib.hid (recA_size _ (recRd_hash (D.at_ 1)))
            have HX1 := Lib.hid (recA_one (recRd (D.at_ 1)).1)
            have HX0 := Lib.hid (recA_0 (recRd (D.at_ 1)).1)
            have HCZ : Hid (cAt D 1 = Rec.zero) := Lib.hid (by unfold cAt; rw [if_neg (fun e => hsq e.2)])
            have hq : ((recRd (D.at_ 1)).1.seqn % 2 == 1) = false := by rw [beq_eq_false_iff_ne]; exact hsq
            have h0 := (may_true (recRd_may hok)).1
            obtain ⟨sq, hsqq⟩ : ∃ sq, (recRd (D.at_ 1)).1.seqn = sq := ⟨_, rfl⟩
            rw [hsqq] at h0 hq HX0
            have h00 : 0 ≤ sq := by omega
            have htm : sq.tmod 2 = sq % 2 := Int.tmod_eq_emod_of_nonneg h00
            have hr0 : 0 ≤ sq % 2 := by omega
            have hr1 : sq % 2 < 2 := by omega
            have hwr : IntKind.i64.wrap (sq % 2) = sq % 2 := Go.IntWalk.i64_in _ (by omega)
            obtain ⟨X, hX⟩ : ∃ X, recA (recRd (D.at_ 1)).1 = X := ⟨_, rfl⟩
            rw [hX] at HR HXS HX1 HX0
            clear hX hok hsq hsqq h0
            go_wp2_with fail
            refine (HRd1.out wr HI.out.2.2.2.2).mono ?_
            rintro e w1 ⟨A1, c1, rfl, hc1, hm1, ho1, hg1⟩
            go_wp2_with fail
            refine (HR.out A1 c1 w1 ho1.rd hc1 hm1).mono ?_
            rintro e w2 ⟨rfl, hg2⟩
            have hgr : Chg Non wr w2 := hg1.then_non hg2
            go_wp2_with (first
              | (refine sel none (.store 25 (.tmp 9) (.tmp 34)) ?_
                 refine wpList_store_rowA rfl 25 (.tmp 9) (.tmp 34) rfl w2.heap.size X rfl rfl 25 _ (heap_alloc_new _ _) (by rw [HXS.out]; exact info_rec) (by rw [HXS.out]; rfl) HX1.out ?_
                 intro W hgW hbW
                 have HB := Lib.hid hbW
                 have HGW := Lib.hid ((hgr.alloc _).then_new hgW (fun x e => by have := hgr.size; omega))
                 have kq : W.cell? ⟨w2.heap.size, 0, none⟩ = some (.int .i64 sq) := by rw [cell_of_row _ _ _ _ _ _ hbW]; exact HX0.out
                 clear hgW hbW))
            exact ⟨⟨2, by omega, rfl, getInv_done HI.out (.inr rfl) HGW.out HCZ.out⟩, by simp [intOf]⟩
        · skip
          have hkf : (recRd (D.at_ 1)).2 = false := by simpa using hok
          have HR := Lib.hid (fun A c W h1 h2 h3 => (HR1.out A c W h1 h2 h3))
          rw [hkf] at HR
          have HXS := Lib.hid (recA_size _ (recRd_hash (D.at_ 1)))
          have HX1 := Lib.hid (recA_one (recRd (D.at_ 1)).1)
          have HX0 := Lib.hid (recA_0 (recRd (D.at_ 1)).1)
          have HCZ : Hid (cAt D 1 = Rec.zero) := Lib.hid (by unfold cAt; rw [if_neg (fun e => hok e.1)])
          obtain ⟨X, hX⟩ : ∃ X, recA (recRd (D.at_ 1)).1 = X := ⟨_, rfl⟩
          rw [hX] at HR HXS HX1 HX0
          clear hX hok hkf
          go_wp2_with fail
          refine (HRd1.out wr HI.out.2.2.2.2).mono ?_
          rintro e w1 ⟨A1, c1, rfl, hc1, hm1, ho1, hg1⟩
          go_wp2_with fail
          refine (HR.out A1 c1 w1 ho1.rd hc1 hm1).mono ?_
          rintro e w2 ⟨rfl, hg2⟩
          have hgr : Chg Non wr w2 := hg1.then_non hg2
          go_wp2_with (first
            | (refine sel none (.store 25 (.tmp 9) (.tmp 34)) ?_
               refine wpList_store_rowA rfl 25 (.tmp 9) (.tmp 34) rfl w2.heap.size X rfl rfl 25 _ (heap_alloc_new _ _) (by rw [HXS.out]; exact info_rec) (by rw [HXS.out]; rfl) HX1.out ?_
               intro W hgW hbW
               have HB := Lib.hid hbW
               have HGW := Lib.hid ((hgr.alloc _).then_new hgW (fun x e => by have := hgr.size; omega))
               clear hgW hbW))
          exact ⟨⟨2, by omega, rfl, getInv_done HI.out (.inr rfl) HGW.out HCZ.out⟩, by simp [intOf]⟩
    · obtain rfl : k = 2 := by omega
      obtain ⟨i1, i2, i3, i4, i5⟩ := HI.out
      have HT0 := Lib.hid (show Two w.heap.size (w.heap.size + 1) recZ recZ wr.drew from i1)
      have HGr := Lib.hid i5.drew
      have HS0 := Lib.hid (recA_size _ (cAt_hash D 0))
      have HS1 := Lib.hid (recA_size _ (cAt_hash D 1))
      have HO0 := Lib.hid (recA_one (cAt D 0))
      have HO1 := Lib.hid (recA_one (cAt D 1))
      have HC0 := Lib.hid (recA_0 (cAt D 0))
      have HC1 := Lib.hid (recA_0 (cAt D 1))
      have H30 : Hid (wr.drew.rangeAt (w.heap.size + 1 + 1) 0 (recA (cAt D 0)).toList) := Lib.hid (by simpa using i3)
      have H31 : Hid (wr.drew.rangeAt (w.heap.size + 1 + 1) 36 (recA (cAt D 1)).toList) := Lib.hid (by simpa using i4)
      have hne : w.heap.size ≠ w.heap.size + 1 := by omega
      have hne2 : w.heap.size + 1 + 1 ≠ w.heap.size := by omega
      clear i1 i2 i3 i4 i5 HI HR0 HR1 HRd0 HRd1 HL
      obtain ⟨X0, hX0⟩ : ∃ X, recA (cAt D 0) = X := ⟨_, rfl⟩
      obtain ⟨X1, hX1⟩ : ∃ X, recA (cAt D 1) = X := ⟨_, rfl⟩
      rw [hX0] at HS0 HO0 HC0 H30
      rw [hX1] at HS1 HO1 HC1 H31
      have HX0 := Lib.hid hX0
      have HX1 := Lib.hid hX1
      clear hX0 hX1
      have p0 := cAt_seqn D 0
      have p1 := cAt_seqn D 1
      have m0 := (cAt_bd D 0).2.1.2
      have m1 := (cAt_bd D 1).2.1.2
      obtain ⟨a0, ha0⟩ : ∃ a, (cAt D 0).seqn = a := ⟨_, rfl⟩
      obtain ⟨a1, ha1⟩ : ∃ a, (cAt D 1).seqn = a := ⟨_, rfl⟩
      rw [ha0] at HC0 p0 m0
      rw [ha1] at HC1 p1 m1
      have HA0 := Lib.hid ha0
      have HA1 := Lib.hid ha1
      clear ha0 ha1
      go_wp2_with fail
      apply wp_cutA (R := fun v => Two w.heap.size (w.heap.size + 1) X0 X1 v ∧ Chg Non w v)
      · refine wp_region_any (by kernel_rfl) ?_
        change wpAny _ _ _ _ _ _ _ (World.drew _)
        refine g_two 0 2 (by kernel_rfl) ?_ ?_
        · refine g_pure (some 48) (.pointer (some ⟨w.heap.size + 1 + 1, 0, none⟩)) rfl (by kernel_rfl) (by kernel_rfl) (by go_simp) ?_
          simp only [Act.put, List.setIfInBounds_toArray, List.set_cons_zero, List.set_cons_succ]
          refine g_two 1 2 (by kernel_rfl) ?_ ?_
          · refine g_load (some 49) 25 (.tmp 48) (w.heap.size + 1 + 1) 0 X0 _ rfl (by kernel_rfl) (by kernel_rfl) (by kernel_rfl) (by kernel_rfl) H30.out Tryz.underlying25 rfl (by rw [HS0.out]; exact info_rec) ?_
            simp only [Act.put, List.setIfInBounds_toArray, List.set_cons_zero, List.set_cons_succ]
            refine g_two 2 4 (by kernel_rfl) ?_ ?_
            · refine g_pure (some 50) (.pointer (some ⟨w.heap.size + 1 + 1, 36, none⟩)) rfl (by kernel_rfl) (by kernel_rfl) (by go_simp) ?_
              simp only [Act.put, List.setIfInBounds_toArray, List.set_cons_zero, List.set_cons_succ]
              refine g_two 3 4 (by kernel_rfl) ?_ ?_
              · refine g_load (some 51) 25 (.tmp 50) (w.heap.size + 1 + 1) 36 X1 _ rfl (by kernel_rfl) (by kernel_rfl) (by kernel_rfl) (by kernel_rfl) H31.out Tryz.underlying25 rfl (by rw [HS1.out]; exact info_rec) ?_
                simp only [Act.put, List.setIfInBounds_toArray, List.set_cons_zero, List.set_cons_succ]
                refine g_one 4 (by kernel_rfl) ?_
                refine g_store 25 (.tmp 2) (.tmp 49) w.heap.size X0 rfl (by kernel_rfl) (by kernel_rfl) (by kernel_rfl) (by kernel_rfl) (by kernel_rfl) 25 ⟨_, HT0.out.1, by rw [HS0.out]; exact recZ_size⟩ (by rw [HS0.out]; exact info_rec) HO0.out ?_
                intro W1 hg1 hb1
                have hT1 := HT0.out.put1 hne hg1 hb1
                refine g_one 5 (by kernel_rfl) ?_
                refine g_store 25 (.tmp 3) (.tmp 51) (w.heap.size + 1) X1 rfl (by kernel_rfl) (by kernel_rfl) (by kernel_rfl) (by kernel_rfl) (by kernel_rfl) 25 ⟨_, hT1.2, by rw [HS1.out]; exact recZ_size⟩ (by rw [HS1.out]; exact info_rec) HO1.out ?_
                intro W2 hg2 hb2
                have hT2 := hT1.put2 hne hg2 hb2
                refine wpAny_done (by kernel_rfl) ?_ _
                exact ⟨rfl, rfl, hT2, (HGr.out.then_new hg1 (fun x e => by omega)).then_new hg2 (fun x e => by omega)⟩
              · refine g_store 25 (.tmp 2) (.tmp 49) w.heap.size X0 rfl (by kernel_rfl) (by kernel_rfl) (by kernel_rfl) (by kernel_rfl) (by kernel_rfl) 25 ⟨_, HT0.out.1, by rw [HS0.out]; exact recZ_size⟩ (by rw [HS0.out]; exact info_rec) HO0.out ?_
                intro W1 hg1 hb1
                have hT1 := HT0.out.put1 hne hg1 hb1
                refine g_one 3 (by kernel_rfl) ?_
                refine g_load (some 51) 25 (.tmp 50) (w.heap.size + 1 + 1) 36 X1 _ rfl (by kernel_rfl) (by kernel_rfl) (by kernel_rfl) (by kernel_rfl) (range_keep hg1 H31.out (by omega)) Tryz.underlying25 rfl (by rw [HS1.out]; exact info_rec) ?_
                simp only [Act.put, List.setIfInBounds_toArray, List.set_cons_zero, List.set_cons_succ]
                refine g_one 5 (by kernel_rfl) ?_
                refine g_store 25 (.tmp 3) (.tmp 51) (w.heap.size + 1) X1 rfl (by kernel_rfl) (by kernel_rfl) (by kernel_rfl) (by kernel_rfl) (by kernel_rfl) 25 ⟨_, hT1.2, by rw [HS1.out]; exact recZ_size⟩ (by rw [HS1.out]; exact info_rec) HO1.out ?_
                intro W2 hg2 hb2
                have hT2 := hT1.put2 hne hg2 hb2
                refine wpAny_done (by kernel_rfl) ?_ _
                exact ⟨rfl, rfl, hT2, (HGr.out.then_new hg1 (fun x e => by omega)).then_new hg2 (fun x e => by omega)⟩
            · refine g_store 25 (.tmp 2) (.tmp 49) w.heap.size X0 rfl (by kernel_rfl) (by kernel_rfl) (by kernel_rfl) (by kernel_rfl) (by kernel_rfl) 25 ⟨_, HT0.out.1, by rw [HS0.out]; exact recZ_size⟩ (by rw [HS0.out]; exact info_rec) HO0.out ?_
              intro W1 hg1 hb1
              have hT1 := HT0.out.put1 hne hg1 hb1
              refine g_one 2 (by kernel_rfl) ?_
              refine g_pure (some 50) (.pointer (some ⟨w.heap.size + 1 + 1, 36, none⟩)) rfl (by kernel_rfl) (by kernel_rfl) (by go_simp) ?_
              simp only [Act.put, List.setIfInBounds_toArray, List.set_cons_zero, List.set_cons_succ]
              refine g_one 3 (by kernel_rfl) ?_
              refine g_load (some 51) 25 (.tmp 50) (w.heap.size + 1 + 1) 36 X1 _ rfl (by kernel_rfl) (by kernel_rfl) (by kernel_rfl) (by kernel_rfl) (range_keep hg1 H31.out (by omega)) Tryz.underlying25 rfl (by rw [HS1.out]; exact info_rec) ?_
              simp only [Act.put, List.setIfInBounds_toArray, List.set_cons_zero, List.set_cons_succ]
              refine g_one 5 (by kernel_rfl) ?_
              refine g_store 25 (.tmp 3) (.tmp 51) (w.heap.size + 1) X1 rfl (by kernel_rfl) (by kernel_rfl) (by kernel_rfl) (by kernel_rfl) (by kernel_rfl) 25 ⟨_, hT1.2, by rw [HS1.out]; exact recZ_size⟩ (by rw [HS1.out]; exact info_rec) HO1.out ?_
              intro W2 hg2 hb2
              have hT2 := hT1.put2 hne hg2 hb2
              refine wpAny_done (by kernel_rfl) ?_ _
              exact ⟨rfl, rfl, hT2, (HGr.out.then_new hg1 (fun x e => by omega)).then_new hg2 (fun x e => by omega)⟩
          · refine g_pure (some 50) (.pointer (some ⟨w.heap.size + 1 + 1, 36, none⟩)) rfl (by kernel_rfl) (by kernel_rfl) (by go_simp) ?_
            simp only [Act.put, List.setIfInBounds_toArray, List.set_cons_zero, List.set_cons_succ]
            refine g_two 1 3 (by kernel_rfl) ?_ ?_
            · refine g_load (some 49) 25 (.tmp 48) (w.heap.size + 1 + 1) 0 X0 _ rfl (by kernel_rfl) (by kernel_rfl) (by kernel_rfl) (by kernel_rfl) H30.out Tryz.underlying25 rfl (by rw [HS0.out]; exact info_rec) ?_
              simp only [Act.put, List.setIfInBounds_toArray, List.set_cons_zero, List.set_cons_succ]
              refine g_two 3 4 (by kernel_rfl) ?_ ?_
              · refine g_load (some 51) 25 (.tmp 50) (w.heap.size + 1 + 1) 36 X1 _ rfl (by kernel_rfl) (by kernel_rfl) (by kernel_rfl) (by kernel_rfl) H31.out Tryz.underlying25 rfl (by rw [HS1.out]; exact info_rec) ?_
                simp only [Act.put, List.setIfInBounds_toArray, List.set_cons_zero, List.set_cons_succ]
                refine g_one 4 (by kernel_rfl) ?_
                refine g_store 25 (.tmp 2) (.tmp 49) w.heap.size X0 rfl (by kernel_rfl) (by kernel_rfl) (by kernel_rfl) (by kernel_rfl) (by kernel_rfl) 25 ⟨_, HT0.out.1, by rw [HS0.out]; exact recZ_size⟩ (by rw [HS0.out]; exact info_rec) HO0.out ?_
                intro W1 hg1 hb1
                have hT1 := HT0.out.put1 hne hg1 hb1
                refine g_one 5 (by kernel_rfl) ?_
                refine g_store 25 (.tmp 3) (.tmp 51) (w.heap.size + 1) X1 rfl (by kernel_rfl) (by kernel_rfl) (by kernel_rfl) (by kernel_rfl) (by kernel_rfl) 25 ⟨_, hT1.2, by rw [HS1.out]; exact recZ_size⟩ (by rw [HS1.out]; exact info_rec) HO1.out ?_
                intro W2 hg2 hb2
                have hT2 := hT1.put2 hne hg2 hb2
                refine wpAny_done (by kernel_rfl) ?_ _
                exact ⟨rfl, rfl, hT2, (HGr.out.then_new hg1 (fun x e => by omega)).then_new hg2 (fun x e => by omega)⟩
              · refine g_store 25 (.tmp 2) (.tmp 49) w.heap.size X0 rfl (by kernel_rfl) (by kernel_rfl) (by kernel_rfl) (by kernel_rfl) (by kernel_rfl) 25 ⟨_, HT0.out.1, by rw [HS0.out]; exact recZ_size⟩ (by rw [HS0.out]; exact info_rec) HO0.out ?_
                intro W1 hg1 hb1
                have hT1 := HT0.out.put1 hne hg1 hb1
                refine g_one 3 (by kernel_rfl) ?_
                refine g_load (some 51) 25 (.tmp 50) (w.heap.size + 1 + 1) 36 X1 _ rfl (by kernel_rfl) (by kernel_rfl) (by kernel_rfl) (by kernel_rfl) (range_keep hg1 H31.out (by omega)) Tryz.underlying25 rfl (by rw [HS1.out]; exact info_rec) ?_
                simp only [Act.put, List.setIfInBounds_toArray, List.set_cons_zero, List.set_cons_succ]
                refine g_one 5 (by kernel_rfl) ?_
                refine g_store 25 (.tmp 3) (.tmp 51) (w.heap.size + 1) X1 rfl (by kernel_rfl) (by kernel_rfl) (by kernel_rfl) (by kernel_rfl) (by kernel_rfl) 25 ⟨_, hT1.2, by rw [HS1.out]; exact recZ_size⟩ (by rw [HS1.out]; exact info_rec) HO1.out ?_
                intro W2 hg2 hb2
                have hT2 := hT1.put2 hne hg2 hb2
                refine wpAny_done (by kernel_rfl) ?_ _
                exact ⟨rfl, rfl, hT2, (HGr.out.then_new hg1 (fun x e => by omega)).then_new hg2 (fun x e => by omega)⟩
            · refine g_load (some 51) 25 (.tmp 50) (w.heap.size + 1 + 1) 36 X1 _ rfl (by kernel_rfl) (by kernel_rfl) (by kernel_rfl) (by kernel_rfl) H31.out Tryz.underlying25 rfl (by rw [HS1.out]; exact info_rec) ?_
              simp only [Act.put, List.setIfInBounds_toArray, List.set_cons_zero, List.set_cons_succ]
              refine g_one 1 (by kernel_rfl) ?_
              refine g_load (some 49) 25 (.tmp 48) (w.heap.size + 1 + 1) 0 X0 _ rfl (by kernel_rfl) (by kernel_rfl) (by kernel_rfl) (by kernel_rfl) H30.out Tryz.underlying25 rfl (by rw [HS0.out]; exact info_rec) ?_
              simp only [Act.put, List.setIfInBounds_toArray, List.set_cons_zero, List.set_cons_succ]
              refine g_one 4 (by kernel_rfl) ?_
              refine g_store 25 (.tmp 2) (.tmp 49) w.heap.size X0 rfl (by kernel_rfl) (by kernel_rfl) (by kernel_rfl) (by kernel_rfl) (by kernel_rfl) 25 ⟨_, HT0.out.1, by rw [HS0.out]; exact recZ_size⟩ (by rw [HS0.out]; exact info_rec) HO0.out ?_
              intro W1 hg1 hb1
              have hT1 := HT0.out.put1 hne hg1 hb1
              refine g_one 5 (by kernel_rfl) ?_
              refine g_store 25 (.tmp 3) (.tmp 51) (w.heap.size + 1) X1 rfl (by kernel_rfl) (by kernel_rfl) (by kernel_rfl) (by kernel_rfl) (by kernel_rfl) 25 ⟨_, hT1.2, by rw [HS1.out]; exact recZ_size⟩ (by rw [HS1.out]; exact info_rec) HO1.out ?_
              intro W2 hg2 hb2
              have hT2 := hT1.put2 hne hg2 hb2
              refine wpAny_done (by kernel_rfl) ?_ _
              exact ⟨rfl, rfl, hT2, (HGr.out.then_new hg1 (fun x e => by omega)).then_new hg2 (fun x e => by omega)⟩
        · refine g_pure (some 50) (.pointer (some ⟨w.heap.size + 1 + 1, 36, none⟩)) rfl (by kernel_rfl) (by kernel_rfl) (by go_simp) ?_
          simp only [Act.put, List.setIfInBounds_toArray, List.set_cons_zero, List.set_cons_succ]
          refine g_two 0 3 (by kernel_rfl) ?_ ?_
          · refine g_pure (some 48) (.pointer (some ⟨w.heap.size + 1 + 1, 0, none⟩)) rfl (by kernel_rfl) (by kernel_rfl) (by go_simp) ?_
            simp only [Act.put, List.setIfInBounds_toArray, List.set_cons_zero, List.set_cons_succ]
            refine g_two 1 3 (by kernel_rfl) ?_ ?_
            · refine g_load (some 49) 25 (.tmp 48) (w.heap.size + 1 + 1) 0 X0 _ rfl (by kernel_rfl) (by kernel_rfl) (by kernel_rfl) (by kernel_rfl) H30.out Tryz.underlying25 rfl (by rw [HS0.out]; exact info_rec) ?_
              simp only [Act.put, List.setIfInBounds_toArray, List.set_cons_zero, List.set_cons_succ]
              refine g_two 3 4 (by kernel_rfl) ?_ ?_
              · refine g_load (some 51) 25 (.tmp 50) (w.heap.size + 1 + 1) 36 X1 _ rfl (by kernel_rfl) (by kernel_rfl) (by kernel_rfl) (by kernel_rfl) H31.out Tryz.underlying25 rfl (by rw [HS1.out]; exact info_rec) ?_
                simp only [Act.put, List.setIfInBounds_toArray, List.set_cons_zero, List.set_cons_succ]
                refine g_one 4 (by kernel_rfl) ?_
                refine g_store 25 (.tmp 2) (.tmp 49) w.heap.size X0 rfl (by kernel_rfl) (by kernel_rfl) (by kernel_rfl) (by kernel_rfl) (by kernel_rfl) 25 ⟨_, HT0.out.1, by rw [HS0.out]; exact recZ_size⟩ (by rw [HS0.out]; exact info_rec) HO0.out ?_
                intro W1 hg1 hb1
                have hT1 := HT0.out.put1 hne hg1 hb1
                refine g_one 5 (by kernel_rfl) ?_
                refine g_store 25 (.tmp 3) (.tmp 51) (w.heap.size + 1) X1 rfl (by kernel_rfl) (by kernel_rfl) (by kernel_rfl) (by kernel_rfl) (by kernel_rfl) 25 ⟨_, hT1.2, by rw [HS1.out]; exact recZ_size⟩ (by rw [HS1.out]; exact info_rec) HO1.out ?_
                intro W2 hg2 hb2
                have hT2 := hT1.put2 hne hg2 hb2
                refine wpAny_done (by kernel_rfl) ?_ _
                exact ⟨rfl, rfl, hT2, (HGr.out.then_new hg1 (fun x e => by omega)).then_new hg2 (fun x e => by omega)⟩
              · refine g_store 25 (.tmp 2) (.tmp 49) w.heap.size X0 rfl (by kernel_rfl) (by kernel_rfl) (by kernel_rfl) (by kernel_rfl) (by kernel_rfl) 25 ⟨_, HT0.out.1, by rw [HS0.out]; exact recZ_size⟩ (by rw [HS0.out]; exact info_rec) HO0.out ?_
                intro W1 hg1 hb1
                have hT1 := HT0.out.put1 hne hg1 hb1
                refine g_one 3 (by kernel_rfl) ?_
                refine g_load (some 51) 25 (.tmp 50) (w.heap.size + 1 + 1) 36 X1 _ rfl (by kernel_rfl) (by kernel_rfl) (by kernel_rfl) (by kernel_rfl) (range_keep hg1 H31.out (by omega)) Tryz.underlying25 rfl (by rw [HS1.out]; exact info_rec) ?_
                simp only [Act.put, List.setIfInBounds_toArray, List.set_cons_zero, List.set_cons_succ]
                refine g_one 5 (by kernel_rfl) ?_
                refine g_store 25 (.tmp 3) (.tmp 51) (w.heap.size + 1) X1 rfl (by kernel_rfl) (by kernel_rfl) (by kernel_rfl) (by kernel_rfl) (by kernel_rfl) 25 ⟨_, hT1.2, by rw [HS1.out]; exact recZ_size⟩ (by rw [HS1.out]; exact info_rec) HO1.out ?_
                intro W2 hg2 hb2
                have hT2 := hT1.put2 hne hg2 hb2
                refine wpAny_done (by kernel_rfl) ?_ _
                exact ⟨rfl, rfl, hT2, (HGr.out.then_new hg1 (fun x e => by omega)).then_new hg2 (fun x e => by omega)⟩
            · refine g_load (some 51) 25 (.tmp 50) (w.heap.size + 1 + 1) 36 X1 _ rfl (by kernel_rfl) (by kernel_rfl) (by kernel_rfl) (by kernel_rfl) H31.out Tryz.underlying25 rfl (by rw [HS1.out]; exact info_rec) ?_
              simp only [Act.put, List.setIfInBounds_toArray, List.set_cons_zero, List.set_cons_succ]
              refine g_one 1 (by kernel_rfl) ?_
              refine g_load (some 49) 25 (.tmp 48) (w.heap.size + 1 + 1) 0 X0 _ rfl (by kernel_rfl) (by kernel_rfl) (by kernel_rfl) (by kernel_rfl) H30.out Tryz.underlying25 rfl (by rw [HS0.out]; exact info_rec) ?_
              simp only [Act.put, List.setIfInBounds_toArray, List.set_cons_zero, List.set_cons_succ]
              refine g_one 4 (by kernel_rfl) ?_
              refine g_store 25 (.tmp 2) (.tmp 49) w.heap.size X0 rfl (by kernel_rfl) (by kernel_rfl) (by kernel_rfl) (by kernel_rfl) (by kernel_rfl) 25 ⟨_, HT0.out.1, by rw [HS0.out]; exact recZ_size⟩ (by rw [HS0.out]; exact info_rec) HO0.out ?_
              intro W1 hg1 hb1
              have hT1 := HT0.out.put1 hne hg1 hb1
              refine g_one 5 (by kernel_rfl) ?_
              refine g_store 25 (.tmp 3) (.tmp 51) (w.heap.size + 1) X1 rfl (by kernel_rfl) (by kernel_rfl) (by kernel_rfl) (by kernel_rfl) (by kernel_rfl) 25 ⟨_, hT1.2, by rw [HS1.out]; exact recZ_size⟩ (by rw [HS1.out]; exact info_rec) HO1.out ?_
              intro W2 hg2 hb2
              have hT2 := hT1.put2 hne hg2 hb2
              refine wpAny_done (by kernel_rfl) ?_ _
              exact ⟨rfl, rfl, hT2, (HGr.out.then_new hg1 (fun x e => by omega)).then_new hg2 (fun x e => by omega)⟩
          · refine g_load (some 51) 25 (.tmp 50) (w.heap.size + 1 + 1) 36 X1 _ rfl (by kernel_rfl) (by kernel_rfl) (by kernel_rfl) (by kernel_rfl) H31.out Tryz.underlying25 rfl (by rw [HS1.out]; exact info_rec) ?_
            simp only [Act.put, List.setIfInBounds_toArray, List.set_cons_zero, List.set_cons_succ]
            refine g_one 0 (by kernel_rfl) ?_
            refine g_pure (some 48) (.pointer (some ⟨w.heap.size + 1 + 1, 0, none⟩)) rfl (by kernel_rfl) (by kernel_rfl) (by go_simp) ?_
            simp only [Act.put, List.setIfInBounds_toArray, List.set_cons_zero, List.set_cons_succ]
            refine g_one 1 (by kernel_rfl) ?_
            refine g_load (some 49) 25 (.tmp 48) (w.heap.size + 1 + 1) 0 X0 _ rfl (by kernel_rfl) (by kernel_rfl) (by kernel_rfl) (by kernel_rfl) H30.out Tryz.underlying25 rfl (by rw [HS0.out]; exact info_rec) ?_
            simp only [Act.put, List.setIfInBounds_toArray, List.set_cons_zero, List.set_cons_succ]
            refine g_one 4 (by kernel_rfl) ?_
            refine g_store 25 (.tmp 2) (.tmp 49) w.heap.size X0 rfl (by kernel_rfl) (by kernel_rfl) (by kernel_rfl) (by kernel_rfl) (by kernel_rfl) 25 ⟨_, HT0.out.1, by rw [HS0.out]; exact recZ_size⟩ (by rw [HS0.out]; exact info_rec) HO0.out ?_
            intro W1 hg1 hb1
            have hT1 := HT0.out.put1 hne hg1 hb1
            refine g_one 5 (by kernel_rfl) ?_
            refine g_store 25 (.tmp 3) (.tmp 51) (w.heap.size + 1) X1 rfl (by kernel_rfl) (by kernel_rfl) (by kernel_rfl) (by kernel_rfl) (by kernel_rfl) 25 ⟨_, hT1.2, by rw [HS1.out]; exact recZ_size⟩ (by rw [HS1.out]; exact info_rec) HO1.out ?_
            intro W2 hg2 hb2
            have hT2 := hT1.put2 hne hg2 hb2
            refine wpAny_done (by kernel_rfl) ?_ _
            exact ⟨rfl, rfl, hT2, (HGr.out.then_new hg1 (fun x e => by omega)).then_new hg2 (fun x e => by omega)⟩
      intro v ⟨hTv, hGv⟩
      have HTv := Lib.hid hTv
      have HGv := Lib.hid hGv
      have k2 : v.cell? ⟨w.heap.size, 0, none⟩ = some (.int .i64 a0) := by rw [cell_of_row _ _ _ _ _ _ hTv.1]; exact HC0.out
      have k3 : v.cell? ⟨w.heap.size + 1, 0, none⟩ = some (.int .i64 a1) := by rw [cell_of_row _ _ _ _ _ _ hTv.2]; exact HC1.out
      clear hTv hGv
      by_cases hlt : a0 < a1
      · have hd : decide (a0 < a1) = true := by simpa using hlt
        have HLT : Hid ((cAt D 0).seqn < (cAt D 1).seqn) := Lib.hid (by rw [HA0.out, HA1.out]; exact hlt)
        clear hlt
        obtain ⟨q, hq, hqr⟩ := eq_rec (cAt D 1) Rec.zero (cAt_bd D 1) zero_bd
        rw [HX1.out] at hqr
        have heq : ∀ u, (binOp .eql 25 (.agg X1) (.agg recZ)).run Tryz.prog u = .ok (.bool q) u := fun u => (hqr u).1
        have HQ := Lib.hid hq
        clear hq hqr
        cases q
        · skip
          have HNZ : Hid (¬ cAt D 1 = Rec.zero) := Lib.hid (fun e => Bool.false_ne_true (HQ.out.2 e))
          have hw1 : IntKind.i64.wrap (a1 - 1) = a1 - 1 := Go.IntWalk.i64_in _ (by omega)
          have hw2 : wrap64 (a1 - 1) = a1 - 1 := by unfold wrap64; omega
          by_cases hn : a0 = a1 - 1
          · skip
            have hb : (a0 != a1 - 1) = false := by rw [bne_eq_false_iff_eq]; exact hn
            have HN := Lib.hid hn
            clear hn
            go_wp2_with (first
              | (refine sel (some 57) (.load 25 (.tmp 3)) ?_; refine wpList_load_rec rfl (.tmp 3) rfl (w.heap.size + 1) 0 rfl X1 HTv.out.right HS1.out ?_)
              | (refine sel (some 58) (.load 25 (.tmp 2)) ?_; refine wpList_load_rec rfl (.tmp 2) rfl w.heap.size 0 rfl X0 HTv.out.left HS0.out ?_)
              | (refine sel none (.store 25 (.tmp 2) (.tmp 57)) ?_
                 refine wpList_store_rowA rfl 25 (.tmp 2) (.tmp 57) rfl w.heap.size X1 rfl rfl 25 _ HTv.out.1 (by rw [HS1.out]; exact info_rec) (by rw [HS0.out, HS1.out]) HO1.out ?_
                 intro u1 hgu1 hbu1
                 have HTu := Lib.hid (HTv.out.put1 hne hgu1 hbu1)
                 have HGu := Lib.hid (HGv.out.then_new hgu1 (fun x e => by omega))
                 clear hgu1 hbu1 k2 k3)
              | (refine sel none (.store 25 (.tmp 3) (.tmp 58)) ?_
                 refine wpList_store_rowA rfl 25 (.tmp 3) (.tmp 58) rfl (w.heap.size + 1) X0 rfl rfl 25 _ HTu.out.2 (by rw [HS0.out]; exact info_rec) (by rw [HS0.out, HS1.out]) HO0.out ?_
                 intro v hgu2 hbu2
                 have HTv := Lib.hid (HTu.out.put2 hne hgu2 hbu2)
                 have HGv := Lib.hid (HGu.out.then_new hgu2 (fun x e => by omega))
                 have k2 : v.cell? ⟨w.heap.size, 0, none⟩ = some (.int .i64 a1) := by rw [cell_of_row _ _ _ _ _ _ HTv.out.1]; exact HC1.out
                 have k3 : v.cell? ⟨w.heap.size + 1, 0, none⟩ = some (.int .i64 a0) := by rw [cell_of_row _ _ _ _ _ _ HTv.out.2]; exact HC0.out
                 clear hgu2 hbu2)
              | (refine sel (some 59) (.load 25 (.tmp 2)) ?_; refine wpList_load_rec rfl (.tmp 2) rfl w.heap.size 0 rfl X1 HTv.out.left HS1.out ?_)
              | (refine sel (some 60) (.build 25 #[]) ?_; refine wpList_pure rfl (some 60) (.agg recZ) rfl (by kernel_rfl) ?_))
            have hTd : Two w.heap.size (w.heap.size + 1) X1 X0 v.drew := HTv.out
            refine wp_region_any (by kernel_rfl) ?_
            change wpAny _ _ _ _ _ _ _ (World.drew _)
            refine g_two 0 1 (by kernel_rfl) ?_ ?_
            · refine g_load (some 71) 25 (.tmp 2) w.heap.size 0 X1 _ rfl (by kernel_rfl) (by kernel_rfl) (by kernel_rfl) (by kernel_rfl) hTd.left Tryz.underlying25 rfl (by rw [HS1.out]; exact info_rec) ?_
              simp only [Act.put, List.setIfInBounds_toArray, List.set_cons_zero, List.set_cons_succ]
              refine g_two 1 2 (by kernel_rfl) ?_ ?_
              · refine g_load (some 72) 25 (.tmp 3) (w.heap.size + 1) 0 X0 _ rfl (by kernel_rfl) (by kernel_rfl) (by kernel_rfl) (by kernel_rfl) hTd.right Tryz.underlying25 rfl (by rw [HS0.out]; exact info_rec) ?_
                simp only [Act.put, List.setIfInBounds_toArray, List.set_cons_zero, List.set_cons_succ]
                refine g_one 2 (by kernel_rfl) ?_
                refine g_store 25 (.tmp 2) (.tmp 71) w.heap.size X1 rfl (by kernel_rfl) (by kernel_rfl) (by kernel_rfl) (by kernel_rfl) (by kernel_rfl) 25 ⟨_, hTd.1, rfl⟩ (by rw [HS1.out]; exact info_rec) HO1.out ?_
                intro W1 hg1 hb1
                have hT1 := hTd.put1 hne hg1 hb1
                refine g_one 3 (by kernel_rfl) ?_
                refine g_store 25 (.tmp 3) (.tmp 72) (w.heap.size + 1) X0 rfl (by kernel_rfl) (by kernel_rfl) (by kernel_rfl) (by kernel_rfl) (by kernel_rfl) 25 ⟨_, hT1.2, rfl⟩ (by rw [HS0.out]; exact info_rec) HO0.out ?_
                intro W2 hg2 hb2
                have hT2 := hT1.put2 hne hg2 hb2
                refine g_one 4 (by kernel_rfl) ?_
                refine g_pure (some 4) (.int .i64 0) rfl (by kernel_rfl) (by kernel_rfl) (by go_simp) ?_
                simp only [Act.put, List.setIfInBounds_toArray, List.set_cons_zero, List.set_cons_succ]
                refine wpAny_done (by kernel_rfl) ?_ _
                go_wp2
                exact bodyPost_ret (run_results_cell2_tmp Tryz.results9 _ _ w.heap.size (w.heap.size + 1) 25 X1 X0 (0, 0) (0, 0) _ (.int .i64 0) (by kernel_rfl) (by kernel_rfl) (by kernel_rfl) hT2.1 hT2.2 Tryz.underlying25 rfl (by rw [HS1.out]; exact info_rec) (by rw [HS0.out]; exact info_rec)) (by kernel_rfl) ⟨cfin_s_eq HX0.out HX1.out HLT.out HNZ.out HA0.out HA1.out HN.out, ((HGv.out.drew).then_new hg1 (fun x e => by omega)).then_new hg2 (fun x e => by omega)⟩
              · refine g_store 25 (.tmp 2) (.tmp 71) w.heap.size X1 rfl (by kernel_rfl) (by kernel_rfl) (by kernel_rfl) (by kernel_rfl) (by kernel_rfl) 25 ⟨_, hTd.1, rfl⟩ (by rw [HS1.out]; exact info_rec) HO1.out ?_
                intro W1 hg1 hb1
                have hT1 := hTd.put1 hne hg1 hb1
                refine g_one 1 (by kernel_rfl) ?_
                refine g_load (some 72) 25 (.tmp 3) (w.heap.size + 1) 0 X0 _ rfl (by kernel_rfl) (by kernel_rfl) (by kernel_rfl) (by kernel_rfl) hT1.right Tryz.underlying25 rfl (by rw [HS0.out]; exact info_rec) ?_
                simp only [Act.put, List.setIfInBounds_toArray, List.set_cons_zero, List.set_cons_succ]
                refine g_one 3 (by kernel_rfl) ?_
                refine g_store 25 (.tmp 3) (.tmp 72) (w.heap.size + 1) X0 rfl (by kernel_rfl) (by kernel_rfl) (by kernel_rfl) (by kernel_rfl) (by kernel_rfl) 25 ⟨_, hT1.2, rfl⟩ (by rw [HS0.out]; exact info_rec) HO0.out ?_
                intro W2 hg2 hb2
                have hT2 := hT1.put2 hne hg2 hb2
                refine g_one 4 (by kernel_rfl) ?_
                refine g_pure (some 4) (.int .i64 0) rfl (by kernel_rfl) (by kernel_rfl) (by go_simp) ?_
                simp only [Act.put, List.setIfInBounds_toArray, List.set_cons_zero, List.set_cons_succ]
                refine wpAny_done (by kernel_rfl) ?_ _
                go_wp2
                exact bodyPost_ret (run_results_cell2_tmp Tryz.results9 _ _ w.heap.size (w.heap.size + 1) 25 X1 X0 (0, 0) (0, 0) _ (.int .i64 0) (by kernel_rfl) (by kernel_rfl) (by kernel_rfl) hT2.1 hT2.2 Tryz.underlying25 rfl (by rw [HS1.out]; exact info_rec) (by rw [HS0.out]; exact info_rec)) (by kernel_rfl) ⟨cfin_s_eq HX0.out HX1.out HLT.out HNZ.out HA0.out HA1.out HN.out, ((HGv.out.drew).then_new hg1 (fun x e => by omega)).then_new hg2 (fun x e => by omega)⟩
            · refine g_load (some 72) 25 (.tmp 3) (w.heap.size + 1) 0 X0 _ rfl (by kernel_rfl) (by kernel_rfl) (by kernel_rfl) (by kernel_rfl) hTd.right Tryz.underlying25 rfl (by rw [HS0.out]; exact info_rec) ?_
              simp only [Act.put, List.setIfInBounds_toArray, List.set_cons_zero, List.set_cons_succ]
              refine g_one 0 (by kernel_rfl) ?_
              refine g_load (some 71) 25 (.tmp 2) w.heap.size 0 X1 _ rfl (by kernel_rfl) (by kernel_rfl) (by kernel_rfl) (by kernel_rfl) hTd.left Tryz.underlying25 rfl (by rw [HS1.out]; exact info_rec) ?_
              simp only [Act.put, List.setIfInBounds_toArray, List.set_cons_zero, List.set_cons_succ]
              refine g_one 2 (by kernel_rfl) ?_
              refine g_store 25 (.tmp 2) (.tmp 71) w.heap.size X1 rfl (by kernel_rfl) (by kernel_rfl) (by kernel_rfl) (by kernel_rfl) (by kernel_rfl) 25 ⟨_, hTd.1, rfl⟩ (by rw [HS1.out]; exact info_rec) HO1.out ?_
              intro W1 hg1 hb1
              have hT1 := hTd.put1 hne hg1 hb1
              refine g_one 3 (by kernel_rfl) ?_
              refine g_store 25 (.tmp 3) (.tmp 72) (w.heap.size + 1) X0 rfl (by kernel_rfl) (by kernel_rfl) (by kernel_rfl) (by kernel_rfl) (by kernel_rfl) 25 ⟨_, hT1.2, rfl⟩ (by rw [HS0.out]; exact info_rec) HO0.out ?_
              intro W2 hg2 hb2
              have hT2 := hT1.put2 hne hg2 hb2
              refine g_one 4 (by kernel_rfl) ?_
              refine g_pure (some 4) (.int .i64 0) rfl (by kernel_rfl) (by kernel_rfl) (by go_simp) ?_
              simp only [Act.put, List.setIfInBounds_toArray, List.set_cons_zero, List.set_cons_succ]
              refine wpAny_done (by kernel_rfl) ?_ _
              go_wp2
              exact bodyPost_ret (run_results_cell2_tmp Tryz.results9 _ _ w.heap.size (w.heap.size + 1) 25 X1 X0 (0, 0) (0, 0) _ (.int .i64 0) (by kernel_rfl) (by kernel_rfl) (by kernel_rfl) hT2.1 hT2.2 Tryz.underlying25 rfl (by rw [HS1.out]; exact info_rec) (by rw [HS0.out]; exact info_rec)) (by kernel_rfl) ⟨cfin_s_eq HX0.out HX1.out HLT.out HNZ.out HA0.out HA1.out HN.out, ((HGv.out.drew).then_new hg1 (fun x e => by omega)).then_new hg2 (fun x e => by omega)⟩
          · skip
            have hb : (a0 != a1 - 1) = true := by rw [bne_iff_ne]; exact hn
            have HN := Lib.hid hn
            clear hn
            go_wp2_with (first
              | (refine sel (some 57) (.load 25 (.tmp 3)) ?_; refine wpList_load_rec rfl (.tmp 3) rfl (w.heap.size + 1) 0 rfl X1 HTv.out.right HS1.out ?_)
              | (refine sel (some 58) (.load 25 (.tmp 2)) ?_; refine wpList_load_rec rfl (.tmp 2) rfl w.heap.size 0 rfl X0 HTv.out.left HS0.out ?_)
              | (refine sel none (.store 25 (.tmp 2) (.tmp 57)) ?_
                 refine wpList_store_rowA rfl 25 (.tmp 2) (.tmp 57) rfl w.heap.size X1 rfl rfl 25 _ HTv.out.1 (by rw [HS1.out]; exact info_rec) (by rw [HS0.out, HS1.out]) HO1.out ?_
                 intro u1 hgu1 hbu1
                 have HTu := Lib.hid (HTv.out.put1 hne hgu1 hbu1)
                 have HGu := Lib.hid (HGv.out.then_new hgu1 (fun x e => by omega))
                 clear hgu1 hbu1 k2 k3)
              | (refine sel none (.store 25 (.tmp 3) (.tmp 58)) ?_
                 refine wpList_store_rowA rfl 25 (.tmp 3) (.tmp 58) rfl (w.heap.size + 1) X0 rfl rfl 25 _ HTu.out.2 (by rw [HS0.out]; exact info_rec) (by rw [HS0.out, HS1.out]) HO0.out ?_
                 intro v hgu2 hbu2
                 have HTv := Lib.hid (HTu.out.put2 hne hgu2 hbu2)
                 have HGv := Lib.hid (HGu.out.then_new hgu2 (fun x e => by omega))
                 have k2 : v.cell? ⟨w.heap.size, 0, none⟩ = some (.int .i64 a1) := by rw [cell_of_row _ _ _ _ _ _ HTv.out.1]; exact HC1.out
                 have k3 : v.cell? ⟨w.heap.size + 1, 0, none⟩ = some (.int .i64 a0) := by rw [cell_of_row _ _ _ _ _ _ HTv.out.2]; exact HC0.out
                 clear hgu2 hbu2)
              | (refine sel (some 59) (.load 25 (.tmp 2)) ?_; refine wpList_load_rec rfl (.tmp 2) rfl w.heap.size 0 rfl X1 HTv.out.left HS1.out ?_)
              | (refine sel (some 60) (.build 25 #[]) ?_; refine wpList_pure rfl (some 60) (.agg recZ) rfl (by kernel_rfl) ?_)
              | (refine sel (some 70) (.build 25 #[]) ?_; refine wpList_pure rfl (some 70) (.agg recZ) rfl (by kernel_rfl) ?_)
              | (refine sel none (.store 25 (.tmp 3) (.tmp 70)) ?_
                 refine wpList_store_rowA rfl 25 (.tmp 3) (.tmp 70) rfl (w.heap.size + 1) recZ rfl rfl 25 _ HTv.out.2 (by rw [recZ_size]; exact info_rec) (by rw [HS0.out, recZ_size]) recZ_one ?_
                 intro v2 hgv2 hbv2
                 have HT2 := Lib.hid (HTv.out.put2 hne hgv2 hbv2)
                 have HGv := Lib.hid (HGv.out.then_new hgv2 (fun x e => by omega))
                 clear hgv2 hbv2 k2 k3))
            have hTd : Two w.heap.size (w.heap.size + 1) X1 recZ v2.drew := HT2.out
            refine wp_region_any (by kernel_rfl) ?_
            change wpAny _ _ _ _ _ _ _ (World.drew _)
            refine g_two 0 1 (by kernel_rfl) ?_ ?_
            · refine g_load (some 71) 25 (.tmp 2) w.heap.size 0 X1 _ rfl (by kernel_rfl) (by kernel_rfl) (by kernel_rfl) (by kernel_rfl) hTd.left Tryz.underlying25 rfl (by rw [HS1.out]; exact info_rec) ?_
              simp only [Act.put, List.setIfInBounds_toArray, List.set_cons_zero, List.set_cons_succ]
              refine g_two 1 2 (by kernel_rfl) ?_ ?_
              · refine g_load (some 72) 25 (.tmp 3) (w.heap.size + 1) 0 recZ _ rfl (by kernel_rfl) (by kernel_rfl) (by kernel_rfl) (by kernel_rfl) hTd.right Tryz.underlying25 rfl (by rw [recZ_size]; exact info_rec) ?_
                simp only [Act.put, List.setIfInBounds_toArray, List.set_cons_zero, List.set_cons_succ]
                refine g_one 2 (by kernel_rfl) ?_
                refine g_store 25 (.tmp 2) (.tmp 71) w.heap.size X1 rfl (by kernel_rfl) (by kernel_rfl) (by kernel_rfl) (by kernel_rfl) (by kernel_rfl) 25 ⟨_, hTd.1, rfl⟩ (by rw [HS1.out]; exact info_rec) HO1.out ?_
                intro W1 hg1 hb1
                have hT1 := hTd.put1 hne hg1 hb1
                refine g_one 3 (by kernel_rfl) ?_
                refine g_store 25 (.tmp 3) (.tmp 72) (w.heap.size + 1) recZ rfl (by kernel_rfl) (by kernel_rfl) (by kernel_rfl) (by kernel_rfl) (by kernel_rfl) 25 ⟨_, hT1.2, rfl⟩ (by rw [recZ_size]; exact info_rec) recZ_one ?_
                intro W2 hg2 hb2
                have hT2 := hT1.put2 hne hg2 hb2
                refine g_one 4 (by kernel_rfl) ?_
                refine g_pure (some 4) (.int .i64 0) rfl (by kernel_rfl) (by kernel_rfl) (by go_simp) ?_
                simp only [Act.put, List.setIfInBounds_toArray, List.set_cons_zero, List.set_cons_succ]
                refine wpAny_done (by kernel_rfl) ?_ _
                go_wp2
                exact bodyPost_ret (run_results_cell2_tmp Tryz.results9 _ _ w.heap.size (w.heap.size + 1) 25 X1 recZ (0, 0) (0, 0) _ (.int .i64 0) (by kernel_rfl) (by kernel_rfl) (by kernel_rfl) hT2.1 hT2.2 Tryz.underlying25 rfl (by rw [HS1.out]; exact info_rec) (by rw [recZ_size]; exact info_rec)) (by kernel_rfl) ⟨cfin_s_ne HX0.out HX1.out HLT.out HNZ.out HA0.out HA1.out HN.out, ((HGv.out.drew).then_new hg1 (fun x e => by omega)).then_new hg2 (fun x e => by omega)⟩
              · refine g_store 25 (.tmp 2) (.tmp 71) w.heap.size X1 rfl (by kernel_rfl) (by kernel_rfl) (by kernel_rfl) (by kernel_rfl) (by kernel_rfl) 25 ⟨_, hTd.1, rfl⟩ (by rw [HS1.out]; exact info_rec) HO1.out ?_
                intro W1 hg1 hb1
                have hT1 := hTd.put1 hne hg1 hb1
                refine g_one 1 (by kernel_rfl) ?_
                refine g_load (some 72) 25 (.tmp 3) (w.heap.size + 1) 0 recZ _ rfl (by kernel_rfl) (by kernel_rfl) (by kernel_rfl) (by kernel_rfl) hT1.right Tryz.underlying25 rfl (by rw [recZ_size]; exact info_rec) ?_
                simp only [Act.put, List.setIfInBounds_toArray, List.set_cons_zero, List.set_cons_succ]
                refine g_one 3 (by kernel_rfl) ?_
                refine g_store 25 (.tmp 3) (.tmp 72) (w.heap.size + 1) recZ rfl (by kernel_rfl) (by kernel_rfl) (by kernel_rfl) (by kernel_rfl) (by kernel_rfl) 25 ⟨_, hT1.2, rfl⟩ (by rw [recZ_size]; exact info_rec) recZ_one ?_
                intro W2 hg2 hb2
                have hT2 := hT1.put2 hne hg2 hb2
                refine g_one 4 (by kernel_rfl) ?_
                refine g_pure (some 4) (.int .i64 0) rfl (by kernel_rfl) (by kernel_rfl) (by go_simp) ?_
                simp only [Act.put, List.setIfInBounds_toArray, List.set_cons_zero, List.set_cons_succ]
                refine wpAny_done (by kernel_rfl) ?_ _
                go_wp2
                exact bodyPost_ret (run_results_cell2_tmp Tryz.results9 _ _ w.heap.size (w.heap.size + 1) 25 X1 recZ (0, 0) (0, 0) _ (.int .i64 0) (by kernel_rfl) (by kernel_rfl) (by kernel_rfl) hT2.1 hT2.2 Tryz.underlying25 rfl (by rw [HS1.out]; exact info_rec) (by rw [recZ_size]; exact info_rec)) (by kernel_rfl) ⟨cfin_s_ne HX0.out HX1.out HLT.out HNZ.out HA0.out HA1.out HN.out, ((HGv.out.drew).then_new hg1 (fun x e => by omega)).then_new hg2 (fun x e => by omega)⟩
            · refine g_load (some 72) 25 (.tmp 3) (w.heap.size + 1) 0 recZ _ rfl (by kernel_rfl) (by kernel_rfl) (by kernel_rfl) (by kernel_rfl) hTd.right Tryz.underlying25 rfl (by rw [recZ_size]; exact info_rec) ?_
              simp only [Act.put, List.setIfInBounds_toArray, List.set_cons_zero, List.set_cons_succ]
              refine g_one 0 (by kernel_rfl) ?_
              refine g_load (some 71) 25 (.tmp 2) w.heap.size 0 X1 _ rfl (by kernel_rfl) (by kernel_rfl) (by kernel_rfl) (by kernel_rfl) hTd.left Tryz.underlying25 rfl (by rw [HS1.out]; exact info_rec) ?_
              simp only [Act.put, List.setIfInBounds_toArray, List.set_cons_zero, List.set_cons_succ]
              refine g_one 2 (by kernel_rfl) ?_
              refine g_store 25 (.tmp 2) (.tmp 71) w.heap.size X1 rfl (by kernel_rfl) (by kernel_rfl) (by kernel_rfl) (by kernel_rfl) (by kernel_rfl) 25 ⟨_, hTd.1, rfl⟩ (by rw [HS1.out]; exact info_rec) HO1.out ?_
              intro W1 hg1 hb1
              have hT1 := hTd.put1 hne hg1 hb1
              refine g_one 3 (by kernel_rfl) ?_
              refine g_store 25 (.tmp 3) (.tmp 72) (w.heap.size + 1) recZ rfl (by kernel_rfl) (by kernel_rfl) (by kernel_rfl) (by kernel_rfl) (by kernel_rfl) 25 ⟨_, hT1.2, rfl⟩ (by rw [recZ_size]; exact info_rec) recZ_one ?_
              intro W2 hg2 hb2
              have hT2 := hT1.put2 hne hg2 hb2
              refine g_one 4 (by kernel_rfl) ?_
              refine g_pure (some 4) (.int .i64 0) rfl (by kernel_rfl) (by kernel_rfl) (by go_simp) ?_
              simp only [Act.put, List.setIfInBounds_toArray, List.set_cons_zero, List.set_cons_succ]
              refine wpAny_done (by kernel_rfl) ?_ _
              go_wp2
              exact bodyPost_ret (run_results_cell2_tmp Tryz.results9 _ _ w.heap.size (w.heap.size + 1) 25 X1 recZ (0, 0) (0, 0) _ (.int .i64 0) (by kernel_rfl) (by kernel_rfl) (by kernel_rfl) hT2.1 hT2.2 Tryz.underlying25 rfl (by rw [HS1.out]; exact info_rec) (by rw [recZ_size]; exact info_rec)) (by kernel_rfl) ⟨cfin_s_ne HX0.out HX1.out HLT.out HNZ.out HA0.out HA1.out HN.out, ((HGv.out.drew).then_new hg1 (fun x e => by omega)).then_new hg2 (fun x e => by omega)⟩
        · skip
          have HZ := Lib.hid (HQ.out.1 rfl)
          go_wp2_with (first
            | (refine sel (some 57) (.load 25 (.tmp 3)) ?_; refine wpList_load_rec rfl (.tmp 3) rfl (w.heap.size + 1) 0 rfl X1 HTv.out.right HS1.out ?_)
            | (refine sel (some 58) (.load 25 (.tmp 2)) ?_; refine wpList_load_rec rfl (.tmp 2) rfl w.heap.size 0 rfl X0 HTv.out.left HS0.out ?_)
            | (refine sel none (.store 25 (.tmp 2) (.tmp 57)) ?_
               refine wpList_store_rowA rfl 25 (.tmp 2) (.tmp 57) rfl w.heap.size X1 rfl rfl 25 _ HTv.out.1 (by rw [HS1.out]; exact info_rec) (by rw [HS0.out, HS1.out]) HO1.out ?_
               intro u1 hgu1 hbu1
               have HTu := Lib.hid (HTv.out.put1 hne hgu1 hbu1)
               have HGu := Lib.hid (HGv.out.then_new hgu1 (fun x e => by omega))
               clear hgu1 hbu1 k2 k3)
            | (refine sel none (.store 25 (.tmp 3) (.tmp 58)) ?_
               refine wpList_store_rowA rfl 25 (.tmp 3) (.tmp 58) rfl (w.heap.size + 1) X0 rfl rfl 25 _ HTu.out.2 (by rw [HS0.out]; exact info_rec) (by rw [HS0.out, HS1.out]) HO0.out ?_
               intro v hgu2 hbu2
               have HTv := Lib.hid (HTu.out.put2 hne hgu2 hbu2)
               have HGv := Lib.hid (HGu.out.then_new hgu2 (fun x e => by omega))
               have k2 : v.cell? ⟨w.heap.size, 0, none⟩ = some (.int .i64 a1) := by rw [cell_of_row _ _ _ _ _ _ HTv.out.1]; exact HC1.out
               have k3 : v.cell? ⟨w.heap.size + 1, 0, none⟩ = some (.int .i64 a0) := by rw [cell_of_row _ _ _ _ _ _ HTv.out.2]; exact HC0.out
               clear hgu2 hbu2)
            | (refine sel (some 59) (.load 25 (.tmp 2)) ?_; refine wpList_load_rec rfl (.tmp 2) rfl w.heap.size 0 rfl X1 HTv.out.left HS1.out ?_)
            | (refine sel (some 60) (.build 25 #[]) ?_; refine wpList_pure rfl (some 60) (.agg recZ) rfl (by kernel_rfl) ?_))
          have hTd : Two w.heap.size (w.heap.size + 1) X1 X0 v.drew := HTv.out
          refine wp_region_any (by kernel_rfl) ?_
          change wpAny _ _ _ _ _ _ _ (World.drew _)
          refine g_two 0 1 (by kernel_rfl) ?_ ?_
          · refine g_load (some 62) 25 (.tmp 2) w.heap.size 0 X1 _ rfl (by kernel_rfl) (by kernel_rfl) (by kernel_rfl) (by kernel_rfl) hTd.left Tryz.underlying25 rfl (by rw [HS1.out]; exact info_rec) ?_
            simp only [Act.put, List.setIfInBounds_toArray, List.set_cons_zero, List.set_cons_succ]
            refine g_two 1 2 (by kernel_rfl) ?_ ?_
            · refine g_load (some 63) 25 (.tmp 3) (w.heap.size + 1) 0 X0 _ rfl (by kernel_rfl) (by kernel_rfl) (by kernel_rfl) (by kernel_rfl) hTd.right Tryz.underlying25 rfl (by rw [HS0.out]; exact info_rec) ?_
              simp only [Act.put, List.setIfInBounds_toArray, List.set_cons_zero, List.set_cons_succ]
              refine g_one 2 (by kernel_rfl) ?_
              refine g_store 25 (.tmp 2) (.tmp 62) w.heap.size X1 rfl (by kernel_rfl) (by kernel_rfl) (by kernel_rfl) (by kernel_rfl) (by kernel_rfl) 25 ⟨_, hTd.1, rfl⟩ (by rw [HS1.out]; exact info_rec) HO1.out ?_
              intro W1 hg1 hb1
              have hT1 := hTd.put1 hne hg1 hb1
              refine g_one 3 (by kernel_rfl) ?_
              refine g_store 25 (.tmp 3) (.tmp 63) (w.heap.size + 1) X0 rfl (by kernel_rfl) (by kernel_rfl) (by kernel_rfl) (by kernel_rfl) (by kernel_rfl) 25 ⟨_, hT1.2, rfl⟩ (by rw [HS0.out]; exact info_rec) HO0.out ?_
              intro W2 hg2 hb2
              have hT2 := hT1.put2 hne hg2 hb2
              refine g_one 4 (by kernel_rfl) ?_
              refine g_pure (some 4) (.int .i64 160) rfl (by kernel_rfl) (by kernel_rfl) (by go_simp) ?_
              simp only [Act.put, List.setIfInBounds_toArray, List.set_cons_zero, List.set_cons_succ]
              refine wpAny_done (by kernel_rfl) ?_ _
              go_wp2
              exact bodyPost_ret (run_results_cell2_tmp Tryz.results9 _ _ w.heap.size (w.heap.size + 1) 25 X1 X0 (0, 0) (0, 0) _ (.int .i64 160) (by kernel_rfl) (by kernel_rfl) (by kernel_rfl) hT2.1 hT2.2 Tryz.underlying25 rfl (by rw [HS1.out]; exact info_rec) (by rw [HS0.out]; exact info_rec)) (by kernel_rfl) ⟨cfin_s_z HX0.out HX1.out HLT.out HZ.out, ((HGv.out.drew).then_new hg1 (fun x e => by omega)).then_new hg2 (fun x e => by omega)⟩
            · refine g_store 25 (.tmp 2) (.tmp 62) w.heap.size X1 rfl (by kernel_rfl) (by kernel_rfl) (by kernel_rfl) (by kernel_rfl) (by kernel_rfl) 25 ⟨_, hTd.1, rfl⟩ (by rw [HS1.out]; exact info_rec) HO1.out ?_
              intro W1 hg1 hb1
              have hT1 := hTd.put1 hne hg1 hb1
              refine g_one 1 (by kernel_rfl) ?_
              refine g_load (some 63) 25 (.tmp 3) (w.heap.size + 1) 0 X0 _ rfl (by kernel_rfl) (by kernel_rfl) (by kernel_rfl) (by kernel_rfl) hT1.right Tryz.underlying25 rfl (by rw [HS0.out]; exact info_rec) ?_
              simp only [Act.put, List.setIfInBounds_toArray, List.set_cons_zero, List.set_cons_succ]
              refine g_one 3 (by kernel_rfl) ?_
              refine g_store 25 (.tmp 3) (.tmp 63) (w.heap.size + 1) X0 rfl (by kernel_rfl) (by kernel_rfl) (by kernel_rfl) (by kernel_rfl) (by kernel_rfl) 25 ⟨_, hT1.2, rfl⟩ (by rw [HS0.out]; exact info_rec) HO0.out ?_
              intro W2 hg2 hb2
              have hT2 := hT1.put2 hne hg2 hb2
              refine g_one 4 (by kernel_rfl) ?_
              refine g_pure (some 4) (.int .i64 160) rfl (by kernel_rfl) (by kernel_rfl) (by go_simp) ?_
              simp only [Act.put, List.setIfInBounds_toArray, List.set_cons_zero, List.set_cons_succ]
              refine wpAny_done (by kernel_rfl) ?_ _
              go_wp2
              exact bodyPost_ret (run_results_cell2_tmp Tryz.results9 _ _ w.heap.size (w.heap.size + 1) 25 X1 X0 (0, 0) (0, 0) _ (.int .i64 160) (by kernel_rfl) (by kernel_rfl) (by kernel_rfl) hT2.1 hT2.2 Tryz.underlying25 rfl (by rw [HS1.out]; exact info_rec) (by rw [HS0.out]; exact info_rec)) (by kernel_rfl) ⟨cfin_s_z HX0.out HX1.out HLT.out HZ.out, ((HGv.out.drew).then_new hg1 (fun x e => by omega)).then_new hg2 (fun x e => by omega)⟩
          · refine g_load (some 63) 25 (.tmp 3) (w.heap.size + 1) 0 X0 _ rfl (by kernel_rfl) (by kernel_rfl) (by kernel_rfl) (by kernel_rfl) hTd.right Tryz.underlying25 rfl (by rw [HS0.out]; exact info_rec) ?_
            simp only [Act.put, List.setIfInBounds_toArray, List.set_cons_zero, List.set_cons_succ]
            refine g_one 0 (by kernel_rfl) ?_
            refine g_load (some 62) 25 (.tmp 2) w.heap.size 0 X1 _ rfl (by kernel_rfl) (by kernel_rfl) (by kernel_rfl) (by kernel_rfl) hTd.left Tryz.underlying25 rfl (by rw [HS1.out]; exact info_rec) ?_
            simp only [Act.put, List.setIfInBounds_toArray, List.set_cons_zero, List.set_cons_succ]
            refine g_one 2 (by kernel_rfl) ?_
            refine g_store 25 (.tmp 2) (.tmp 62) w.heap.size X1 rfl (by kernel_rfl) (by kernel_rfl) (by kernel_rfl) (by kernel_rfl) (by kernel_rfl) 25 ⟨_, hTd.1, rfl⟩ (by rw [HS1.out]; exact info_rec) HO1.out ?_
            intro W1 hg1 hb1
            have hT1 := hTd.put1 hne hg1 hb1
            refine g_one 3 (by kernel_rfl) ?_
            refine g_store 25 (.tmp 3) (.tmp 63) (w.heap.size + 1) X0 rfl (by kernel_rfl) (by kernel_rfl) (by kernel_rfl) (by kernel_rfl) (by kernel_rfl) 25 ⟨_, hT1.2, rfl⟩ (by rw [HS0.out]; exact info_rec) HO0.out ?_
            intro W2 hg2 hb2
            have hT2 := hT1.put2 hne hg2 hb2
            refine g_one 4 (by kernel_rfl) ?_
            refine g_pure (some 4) (.int .i64 160) rfl (by kernel_rfl) (by kernel_rfl) (by go_simp) ?_
            simp only [Act.put, List.setIfInBounds_toArray, List.set_cons_zero, List.set_cons_succ]
            refine wpAny_done (by kernel_rfl) ?_ _
            go_wp2
            exact bodyPost_ret (run_results_cell2_tmp Tryz.results9 _ _ w.heap.size (w.heap.size + 1) 25 X1 X0 (0, 0) (0, 0) _ (.int .i64 160) (by kernel_rfl) (by kernel_rfl) (by kernel_rfl) hT2.1 hT2.2 Tryz.underlying25 rfl (by rw [HS1.out]; exact info_rec) (by rw [HS0.out]; exact info_rec)) (by kernel_rfl) ⟨cfin_s_z HX0.out HX1.out HLT.out HZ.out, ((HGv.out.drew).then_new hg1 (fun x e => by omega)).then_new hg2 (fun x e => by omega)⟩
      · have hd : decide (a0 < a1) = false := by simpa using hlt
        have HLT : Hid ((cAt D 1).seqn ≤ (cAt D 0).seqn) := Lib.hid (by rw [HA0.out, HA1.out]; omega)
        clear hlt
        obtain ⟨q, hq, hqr⟩ := eq_rec (cAt D 0) Rec.zero (cAt_bd D 0) zero_bd
        rw [HX0.out] at hqr
        have heq : ∀ u, (binOp .eql 25 (.agg X0) (.agg recZ)).run Tryz.prog u = .ok (.bool q) u := fun u => (hqr u).1
        have HQ := Lib.hid hq
        clear hq hqr
        cases q
        · skip
          have HNZ : Hid (¬ cAt D 0 = Rec.zero) := Lib.hid (fun e => Bool.false_ne_true (HQ.out.2 e))
          have hw1 : IntKind.i64.wrap (a0 - 1) = a0 - 1 := Go.IntWalk.i64_in _ (by omega)
          have hw2 : wrap64 (a0 - 1) = a0 - 1 := by unfold wrap64; omega
          by_cases hn : a1 = a0 - 1
          · skip
            have hb : (a1 != a0 - 1) = false := by rw [bne_eq_false_iff_eq]; exact hn
            have HN := Lib.hid hn
            clear hn
            go_wp2_with (first
              | (refine sel (some 59) (.load 25 (.tmp 2)) ?_; refine wpList_load_rec rfl (.tmp 2) rfl w.heap.size 0 rfl X0 HTv.out.left HS0.out ?_)
              | (refine sel (some 60) (.build 25 #[]) ?_; refine wpList_pure rfl (some 60) (.agg recZ) rfl (by kernel_rfl) ?_))
            have hTd : Two w.heap.size (w.heap.size + 1) X0 X1 v.drew := HTv.out
            refine wp_region_any (by kernel_rfl) ?_
            change wpAny _ _ _ _ _ _ _ (World.drew _)
            refine g_two 0 1 (by kernel_rfl) ?_ ?_
            · refine g_load (some 71) 25 (.tmp 2) w.heap.size 0 X0 _ rfl (by kernel_rfl) (by kernel_rfl) (by kernel_rfl) (by kernel_rfl) hTd.left Tryz.underlying25 rfl (by rw [HS0.out]; exact info_rec) ?_
              simp only [Act.put, List.setIfInBounds_toArray, List.set_cons_zero, List.set_cons_succ]
              refine g_two 1 2 (by kernel_rfl) ?_ ?_
              · refine g_load (some 72) 25 (.tmp 3) (w.heap.size + 1) 0 X1 _ rfl (by kernel_rfl) (by kernel_rfl) (by kernel_rfl) (by kernel_rfl) hTd.right Tryz.underlying25 rfl (by rw [HS1.out]; exact info_rec) ?_
                simp only [Act.put, List.setIfInBounds_toArray, List.set_cons_zero, List.set_cons_succ]
                refine g_one 2 (by kernel_rfl) ?_
                refine g_store 25 (.tmp 2) (.tmp 71) w.heap.size X0 rfl (by kernel_rfl) (by kernel_rfl) (by kernel_rfl) (by kernel_rfl) (by kernel_rfl) 25 ⟨_, hTd.1, rfl⟩ (by rw [HS0.out]; exact info_rec) HO0.out ?_
                intro W1 hg1 hb1
                have hT1 := hTd.put1 hne hg1 hb1
                refine g_one 3 (by kernel_rfl) ?_
                refine g_store 25 (.tmp 3) (.tmp 72) (w.heap.size + 1) X1 rfl (by kernel_rfl) (by kernel_rfl) (by kernel_rfl) (by kernel_rfl) (by kernel_rfl) 25 ⟨_, hT1.2, rfl⟩ (by rw [HS1.out]; exact info_rec) HO1.out ?_
                intro W2 hg2 hb2
                have hT2 := hT1.put2 hne hg2 hb2
                refine g_one 4 (by kernel_rfl) ?_
                refine g_pure (some 4) (.int .i64 0) rfl (by kernel_rfl) (by kernel_rfl) (by go_simp) ?_
                simp only [Act.put, List.setIfInBounds_toArray, List.set_cons_zero, List.set_cons_succ]
                refine wpAny_done (by kernel_rfl) ?_ _
                go_wp2
                exact bodyPost_ret (run_results_cell2_tmp Tryz.results9 _ _ w.heap.size (w.heap.size + 1) 25 X0 X1 (0, 0) (0, 0) _ (.int .i64 0) (by kernel_rfl) (by kernel_rfl) (by kernel_rfl) hT2.1 hT2.2 Tryz.underlying25 rfl (by rw [HS0.out]; exact info_rec) (by rw [HS1.out]; exact info_rec)) (by kernel_rfl) ⟨cfin_n_eq HX0.out HX1.out (Int.not_lt.2 HLT.out) HNZ.out HA1.out HA0.out HN.out, ((HGv.out.drew).then_new hg1 (fun x e => by omega)).then_new hg2 (fun x e => by omega)⟩
              · refine g_store 25 (.tmp 2) (.tmp 71) w.heap.size X0 rfl (by kernel_rfl) (by kernel_rfl) (by kernel_rfl) (by kernel_rfl) (by kernel_rfl) 25 ⟨_, hTd.1, rfl⟩ (by rw [HS0.out]; exact info_rec) HO0.out ?_
                intro W1 hg1 hb1
                have hT1 := hTd.put1 hne hg1 hb1
                refine g_one 1 (by kernel_rfl) ?_
                refine g_load (some 72) 25 (.tmp 3) (w.heap.size + 1) 0 X1 _ rfl (by kernel_rfl) (by kernel_rfl) (by kernel_rfl) (by kernel_rfl) hT1.right Tryz.underlying25 rfl (by rw [HS1.out]; exact info_rec) ?_
                simp only [Act.put, List.setIfInBounds_toArray, List.set_cons_zero, List.set_cons_succ]
                refine g_one 3 (by kernel_rfl) ?_
                refine g_store 25 (.tmp 3) (.tmp 72) (w.heap.size + 1) X1 rfl (by kernel_rfl) (by kernel_rfl) (by kernel_rfl) (by kernel_rfl) (by kernel_rfl) 25 ⟨_, hT1.2, rfl⟩ (by rw [HS1.out]; exact info_rec) HO1.out ?_
                intro W2 hg2 hb2
                have hT2 := hT1.put2 hne hg2 hb2
                refine g_one 4 (by kernel_rfl) ?_
                refine g_pure (some 4) (.int .i64 0) rfl (by kernel_rfl) (by kernel_rfl) (by go_simp) ?_
                simp only [Act.put, List.setIfInBounds_toArray, List.set_cons_zero, List.set_cons_succ]
                refine wpAny_done (by kernel_rfl) ?_ _
                go_wp2
                exact bodyPost_ret (run_results_cell2_tmp Tryz.results9 _ _ w.heap.size (w.heap.size + 1) 25 X0 X1 (0, 0) (0, 0) _ (.int .i64 0) (by kernel_rfl) (by kernel_rfl) (by kernel_rfl) hT2.1 hT2.2 Tryz.underlying25 rfl (by rw [HS0.out]; exact info_rec) (by rw [HS1.out]; exact info_rec)) (by kernel_rfl) ⟨cfin_n_eq HX0.out HX1.out (Int.not_lt.2 HLT.out) HNZ.out HA1.out HA0.out HN.out, ((HGv.out.drew).then_new hg1 (fun x e => by omega)).then_new hg2 (fun x e => by omega)⟩
            · refine g_load (some 72) 25 (.tmp 3) (w.heap.size + 1) 0 X1 _ rfl (by kernel_rfl) (by kernel_rfl) (by kernel_rfl) (by kernel_rfl) hTd.right Tryz.underlying25 rfl (by rw [HS1.out]; exact info_rec) ?_
              simp only [Act.put, List.setIfInBounds_toArray, List.set_cons_zero, List.set_cons_succ]
              refine g_one 0 (by kernel_rfl) ?_
              refine g_load (some 71) 25 (.tmp 2) w.heap.size 0 X0 _ rfl (by kernel_rfl) (by kernel_rfl) (by kernel_rfl) (by kernel_rfl) hTd.left Tryz.underlying25 rfl (by rw [HS0.out]; exact info_rec) ?_
              simp only [Act.put, List.setIfInBounds_toArray, List.set_cons_zero, List.set_cons_succ]
              refine g_one 2 (by kernel_rfl) ?_
              refine g_store 25 (.tmp 2) (.tmp 71) w.heap.size X0 rfl (by kernel_rfl) (by kernel_rfl) (by kernel_rfl) (by kernel_rfl) (by kernel_rfl) 25 ⟨_, hTd.1, rfl⟩ (by rw [HS0.out]; exact info_rec) HO0.out ?_
              intro W1 hg1 hb1
              have hT1 := hTd.put1 hne hg1 hb1
              refine g_one 3 (by kernel_rfl) ?_
              refine g_store 25 (.tmp 3) (.tmp 72) (w.heap.size + 1) X1 rfl (by kernel_rfl) (by kernel_rfl) (by kernel_rfl) (by kernel_rfl) (by kernel_rfl) 25 ⟨_, hT1.2, rfl⟩ (by rw [HS1.out]; exact info_rec) HO1.out ?_
              intro W2 hg2 hb2
              have hT2 := hT1.put2 hne hg2 hb2
              refine g_one 4 (by kernel_rfl) ?_
              refine g_pure (some 4) (.int .i64 0) rfl (by kernel_rfl) (by kernel_rfl) (by go_simp) ?_
              simp only [Act.put, List.setIfInBounds_toArray, List.set_cons_zero, List.set_cons_succ]
              refine wpAny_done (by kernel_rfl) ?_ _
              go_wp2
              exact bodyPost_ret (run_results_cell2_tmp Tryz.results9 _ _ w.heap.size (w.heap.size + 1) 25 X0 X1 (0, 0) (0, 0) _ (.int .i64 0) (by kernel_rfl) (by kernel_rfl) (by kernel_rfl) hT2.1 hT2.2 Tryz.underlying25 rfl (by rw [HS0.out]; exact info_rec) (by rw [HS1.out]; exact info_rec)) (by kernel_rfl) ⟨cfin_n_eq HX0.out HX1.out (Int.not_lt.2 HLT.out) HNZ.out HA1.out HA0.out HN.out, ((HGv.out.drew).then_new hg1 (fun x e => by omega)).then_new hg2 (fun x e => by omega)⟩
          · skip
            have hb : (a1 != a0 - 1) = true := by rw [bne_iff_ne]; exact hn
            have HN := Lib.hid hn
            clear hn
            go_wp2_with (first
              | (refine sel (some 59) (.load 25 (.tmp 2)) ?_; refine wpList_load_rec rfl (.tmp 2) rfl w.heap.size 0 rfl X0 HTv.out.left HS0.out ?_)
              | (refine sel (some 60) (.build 25 #[]) ?_; refine wpList_pure rfl (some 60) (.agg recZ) rfl (by kernel_rfl) ?_)
              | (refine sel (some 70) (.build 25 #[]) ?_; refine wpList_pure rfl (some 70) (.agg recZ) rfl (by kernel_rfl) ?_)
              | (refine sel none (.store 25 (.tmp 3) (.tmp 70)) ?_
                 refine wpList_store_rowA rfl 25 (.tmp 3) (.tmp 70) rfl (w.heap.size + 1) recZ rfl rfl 25 _ HTv.out.2 (by rw [recZ_size]; exact info_rec) (by rw [HS1.out, recZ_size]) recZ_one ?_
                 intro v2 hgv2 hbv2
                 have HT2 := Lib.hid (HTv.out.put2 hne hgv2 hbv2)
                 have HGv := Lib.hid (HGv.out.then_new hgv2 (fun x e => by omega))
                 clear hgv2 hbv2 k2 k3))
            have hTd : Two w.heap.size (w.heap.size + 1) X0 recZ v2.drew := HT2.out
            refine wp_region_any (by kernel_rfl) ?_
            change wpAny _ _ _ _ _ _ _ (World.drew _)
            refine g_two 0 1 (by kernel_rfl) ?_ ?_
            · refine g_load (some 71) 25 (.tmp 2) w.heap.size 0 X0 _ rfl (by kernel_rfl) (by kernel_rfl) (by kernel_rfl) (by kernel_rfl) hTd.left Tryz.underlying25 rfl (by rw [HS0.out]; exact info_rec) ?_
              simp only [Act.put, List.setIfInBounds_toArray, List.set_cons_zero, List.set_cons_succ]
              refine g_two 1 2 (by kernel_rfl) ?_ ?_
              · refine g_load (some 72) 25 (.tmp 3) (w.heap.size + 1) 0 recZ _ rfl (by kernel_rfl) (by kernel_rfl) (by kernel_rfl) (by kernel_rfl) hTd.right Tryz.underlying25 rfl (by rw [recZ_size]; exact info_rec) ?_
                simp only [Act.put, List.setIfInBounds_toArray, List.set_cons_zero, List.set_cons_succ]
                refine g_one 2 (by kernel_rfl) ?_
                refine g_store 25 (.tmp 2) (.tmp 71) w.heap.size X0 rfl (by kernel_rfl) (by kernel_rfl) (by kernel_rfl) (by kernel_rfl) (by kernel_rfl) 25 ⟨_, hTd.1, rfl⟩ (by rw [HS0.out]; exact info_rec) HO0.out ?_
                intro W1 hg1 hb1
                have hT1 := hTd.put1 hne hg1 hb1
                refine g_one 3 (by kernel_rfl) ?_
                refine g_store 25 (.tmp 3) (.tmp 72) (w.heap.size + 1) recZ rfl (by kernel_rfl) (by kernel_rfl) (by kernel_rfl) (by kernel_rfl) (by kernel_rfl) 25 ⟨_, hT1.2, rfl⟩ (by rw [recZ_size]; exact info_rec) recZ_one ?_
                intro W2 hg2 hb2
                have hT2 := hT1.put2 hne hg2 hb2
                refine g_one 4 (by kernel_rfl) ?_
                refine g_pure (some 4) (.int .i64 0) rfl (by kernel_rfl) (by kernel_rfl) (by go_simp) ?_
                simp only [Act.put, List.setIfInBounds_toArray, List.set_cons_zero, List.set_cons_succ]
                refine wpAny_done (by kernel_rfl) ?_ _
                go_wp2
                exact bodyPost_ret (run_results_cell2_tmp Tryz.results9 _ _ w.heap.size (w.heap.size + 1) 25 X0 recZ (0, 0) (0, 0) _ (.int .i64 0) (by kernel_rfl) (by kernel_rfl) (by kernel_rfl) hT2.1 hT2.2 Tryz.underlying25 rfl (by rw [HS0.out]; exact info_rec) (by rw [recZ_size]; exact info_rec)) (by kernel_rfl) ⟨cfin_n_ne HX0.out HX1.out (Int.not_lt.2 HLT.out) HNZ.out HA1.out HA0.out HN.out, ((HGv.out.drew).then_new hg1 (fun x e => by omega)).then_new hg2 (fun x e => by omega)⟩
              · refine g_store 25 (.tmp 2) (.tmp 71) w.heap.size X0 rfl (by kernel_rfl) (by kernel_rfl) (by kernel_rfl) (by kernel_rfl) (by kernel_rfl) 25 ⟨_, hTd.1, rfl⟩ (by rw [HS0.out]; exact info_rec) HO0.out ?_
                intro W1 hg1 hb1
                have hT1 := hTd.put1 hne hg1 hb1
                refine g_one 1 (by kernel_rfl) ?_
                refine g_load (some 72) 25 (.tmp 3) (w.heap.size + 1) 0 recZ _ rfl (by kernel_rfl) (by kernel_rfl) (by kernel_rfl) (by kernel_rfl) hT1.right Tryz.underlying25 rfl (by rw [recZ_size]; exact info_rec) ?_
                simp only [Act.put, List.setIfInBounds_toArray, List.set_cons_zero, List.set_cons_succ]
                refine g_one 3 (by kernel_rfl) ?_
                refine g_store 25 (.tmp 3) (.tmp 72) (w.heap.size + 1) recZ rfl (by kernel_rfl) (by kernel_rfl) (by kernel_rfl) (by kernel_rfl) (by kernel_rfl) 25 ⟨_, hT1.2, rfl⟩ (by rw [recZ_size]; exact info_rec) recZ_one ?_
                intro W2 hg2 hb2
                have hT2 := hT1.put2 hne hg2 hb2
                refine g_one 4 (by kernel_rfl) ?_
                refine g_pure (some 4) (.int .i64 0) rfl (by kernel_rfl) (by kernel_rfl) (by go_simp) ?_
                simp only [Act.put, List.setIfInBounds_toArray, List.set_cons_zero, List.set_cons_succ]
                refine wpAny_done (by kernel_rfl) ?_ _
                go_wp2
                exact bodyPost_ret (run_results_cell2_tmp Tryz.results9 _ _ w.heap.size (w.heap.size + 1) 25 X0 recZ (0, 0) (0, 0) _ (.int .i64 0) (by kernel_rfl) (by kernel_rfl) (by kernel_rfl) hT2.1 hT2.2 Tryz.underlying25 rfl (by rw [HS0.out]; exact info_rec) (by rw [recZ_size]; exact info_rec)) (by kernel_rfl) ⟨cfin_n_ne HX0.out HX1.out (Int.not_lt.2 HLT.out) HNZ.out HA1.out HA0.out HN.out, ((HGv.out.drew).then_new hg1 (fun x e => by omega)).then_new hg2 (fun x e => by omega)⟩
            · refine g_load (some 72) 25 (.tmp 3) (w.heap.size + 1) 0 recZ _ rfl (by kernel_rfl) (by kernel_rfl) (by kernel_rfl) (by kernel_rfl) hTd.right Tryz.underlying25 rfl (by rw [recZ_size]; exact info_rec) ?_
              simp only [Act.put, List.setIfInBounds_toArray, List.set_cons_zero, List.set_cons_succ]
              refine g_one 0 (by kernel_rfl) ?_
              refine g_load (some 71) 25 (.tmp 2) w.heap.size 0 X0 _ rfl (by kernel_rfl) (by kernel_rfl) (by kernel_rfl) (by kernel_rfl) hTd.left Tryz.underlying25 rfl (by rw [HS0.out]; exact info_rec) ?_
              simp only [Act.put, List.setIfInBounds_toArray, List.set_cons_zero, List.set_cons_succ]
              refine g_one 2 (by kernel_rfl) ?_
              refine g_store 25 (.tmp 2) (.tmp 71) w.heap.size X0 rfl (by kernel_rfl) (by kernel_rfl) (by kernel_rfl) (by kernel_rfl) (by kernel_rfl) 25 ⟨_, hTd.1, rfl⟩ (by rw [HS0.out]; exact info_rec) HO0.out ?_
              intro W1 hg1 hb1
              have hT1 := hTd.put1 hne hg1 hb1
              refine g_one 3 (by kernel_rfl) ?_
              refine g_store 25 (.tmp 3) (.tmp 72) (w.heap.size + 1) recZ rfl (by kernel_rfl) (by kernel_rfl) (by kernel_rfl) (by kernel_rfl) (by kernel_rfl) 25 ⟨_, hT1.2, rfl⟩ (by rw [recZ_size]; exact info_rec) recZ_one ?_
              intro W2 hg2 hb2
              have hT2 := hT1.put2 hne hg2 hb2
              refine g_one 4 (by kernel_rfl) ?_
              refine g_pure (some 4) (.int .i64 0) rfl (by kernel_rfl) (by kernel_rfl) (by go_simp) ?_
              simp only [Act.put, List.setIfInBounds_toArray, List.set_cons_zero, List.set_cons_succ]
              refine wpAny_done (by kernel_rfl) ?_ _
              go_wp2
              exact bodyPost_ret (run_results_cell2_tmp Tryz.results9 _ _ w.heap.size (w.heap.size + 1) 25 X0 recZ (0, 0) (0, 0) _ (.int .i64 0) (by kernel_rfl) (by kernel_rfl) (by kernel_rfl) hT2.1 hT2.2 Tryz.underlying25 rfl (by rw [HS0.out]; exact info_rec) (by rw [recZ_size]; exact info_rec)) (by kernel_rfl) ⟨cfin_n_ne HX0.out HX1.out (Int.not_lt.2 HLT.out) HNZ.out HA1.out HA0.out HN.out, ((HGv.out.drew).then_new hg1 (fun x e => by omega)).then_new hg2 (fun x e => by omega)⟩
        · skip
          have HZ := Lib.hid (HQ.out.1 rfl)
          go_wp2_with (first
            | (refine sel (some 59) (.load 25 (.tmp 2)) ?_; refine wpList_load_rec rfl (.tmp 2) rfl w.heap.size 0 rfl X0 HTv.out.left HS0.out ?_)
            | (refine sel (some 60) (.build 25 #[]) ?_; refine wpList_pure rfl (some 60) (.agg recZ) rfl (by kernel_rfl) ?_))
          have hTd : Two w.heap.size (w.heap.size + 1) X0 X1 v.drew := HTv.out
          refine wp_region_any (by kernel_rfl) ?_
          change wpAny _ _ _ _ _ _ _ (World.drew _)
          refine g_two 0 1 (by kernel_rfl) ?_ ?_
          · refine g_load (some 62) 25 (.tmp 2) w.heap.size 0 X0 _ rfl (by kernel_rfl) (by kernel_rfl) (by kernel_rfl) (by kernel_rfl) hTd.left Tryz.underlying25 rfl (by rw [HS0.out]; exact info_rec) ?_
            simp only [Act.put, List.setIfInBounds_toArray, List.set_cons_zero, List.set_cons_succ]
            refine g_two 1 2 (by kernel_rfl) ?_ ?_
            · refine g_load (some 63) 25 (.tmp 3) (w.heap.size + 1) 0 X1 _ rfl (by kernel_rfl) (by kernel_rfl) (by kernel_rfl) (by kernel_rfl) hTd.right Tryz.underlying25 rfl (by rw [HS1.out]; exact info_rec) ?_
              simp only [Act.put, List.setIfInBounds_toArray, List.set_cons_zero, List.set_cons_succ]
              refine g_one 2 (by kernel_rfl) ?_
              refine g_store 25 (.tmp 2) (.tmp 62) w.heap.size X0 rfl (by kernel_rfl) (by kernel_rfl) (by kernel_rfl) (by kernel_rfl) (by kernel_rfl) 25 ⟨_, hTd.1, rfl⟩ (by rw [HS0.out]; exact info_rec) HO0.out ?_
              intro W1 hg1 hb1
              have hT1 := hTd.put1 hne hg1 hb1
              refine g_one 3 (by kernel_rfl) ?_
              refine g_store 25 (.tmp 3) (.tmp 63) (w.heap.size + 1) X1 rfl (by kernel_rfl) (by kernel_rfl) (by kernel_rfl) (by kernel_rfl) (by kernel_rfl) 25 ⟨_, hT1.2, rfl⟩ (by rw [HS1.out]; exact info_rec) HO1.out ?_
              intro W2 hg2 hb2
              have hT2 := hT1.put2 hne hg2 hb2
              refine g_one 4 (by kernel_rfl) ?_
              refine g_pure (some 4) (.int .i64 160) rfl (by kernel_rfl) (by kernel_rfl) (by go_simp) ?_
              simp only [Act.put, List.setIfInBounds_toArray, List.set_cons_zero, List.set_cons_succ]
              refine wpAny_done (by kernel_rfl) ?_ _
              go_wp2
              exact bodyPost_ret (run_results_cell2_tmp Tryz.results9 _ _ w.heap.size (w.heap.size + 1) 25 X0 X1 (0, 0) (0, 0) _ (.int .i64 160) (by kernel_rfl) (by kernel_rfl) (by kernel_rfl) hT2.1 hT2.2 Tryz.underlying25 rfl (by rw [HS0.out]; exact info_rec) (by rw [HS1.out]; exact info_rec)) (by kernel_rfl) ⟨cfin_n_z HX0.out HX1.out (Int.not_lt.2 HLT.out) HZ.out, ((HGv.out.drew).then_new hg1 (fun x e => by omega)).then_new hg2 (fun x e => by omega)⟩
            · refine g_store 25 (.tmp 2) (.tmp 62) w.heap.size X0 rfl (by kernel_rfl) (by kernel_rfl) (by kernel_rfl) (by kernel_rfl) (by kernel_rfl) 25 ⟨_, hTd.1, rfl⟩ (by rw [HS0.out]; exact info_rec) HO0.out ?_
              intro W1 hg1 hb1
              have hT1 := hTd.put1 hne hg1 hb1
              refine g_one 1 (by kernel_rfl) ?_
              refine g_load (some 63) 25 (.tmp 3) (w.heap.size + 1) 0 X1 _ rfl (by kernel_rfl) (by kernel_rfl) (by kernel_rfl) (by kernel_rfl) hT1.right Tryz.underlying25 rfl (by rw [HS1.out]; exact info_rec) ?_
              simp only [Act.put, List.setIfInBounds_toArray, List.set_cons_zero, List.set_cons_succ]
              refine g_one 3 (by kernel_rfl) ?_
              refine g_store 25 (.tmp 3) (.tmp 63) (w.heap.size + 1) X1 rfl (by kernel_rfl) (by kernel_rfl) (by kernel_rfl) (by kernel_rfl) (by kernel_rfl) 25 ⟨_, hT1.2, rfl⟩ (by rw [HS1.out]; exact info_rec) HO1.out ?_
              intro W2 hg2 hb2
              have hT2 := hT1.put2 hne hg2 hb2
              refine g_one 4 (by kernel_rfl) ?_
              refine g_pure (some 4) (.int .i64 160) rfl (by kernel_rfl) (by kernel_rfl) (by go_simp) ?_
              simp only [Act.put, List.setIfInBounds_toArray, List.set_cons_zero, List.set_cons_succ]
              refine wpAny_done (by kernel_rfl) ?_ _
              go_wp2
              exact bodyPost_ret (run_results_cell2_tmp Tryz.results9 _ _ w.heap.size (w.heap.size + 1) 25 X0 X1 (0, 0) (0, 0) _ (.int .i64 160) (by kernel_rfl) (by kernel_rfl) (by kernel_rfl) hT2.1 hT2.2 Tryz.underlying25 rfl (by rw [HS0.out]; exact info_rec) (by rw [HS1.out]; exact info_rec)) (by kernel_rfl) ⟨cfin_n_z HX0.out HX1.out (Int.not_lt.2 HLT.out) HZ.out, ((HGv.out.drew).then_new hg1 (fun x e => by omega)).then_new hg2 (fun x e => by omega)⟩
          · refine g_load (some 63) 25 (.tmp 3) (w.heap.size + 1) 0 X1 _ rfl (by kernel_rfl) (by kernel_rfl) (by kernel_rfl) (by kernel_rfl) hTd.right Tryz.underlying25 rfl (by rw [HS1.out]; exact info_rec) ?_
            simp only [Act.put, List.setIfInBounds_toArray, List.set_cons_zero, List.set_cons_succ]
            refine g_one 0 (by kernel_rfl) ?_
            refine g_load (some 62) 25 (.tmp 2) w.heap.size 0 X0 _ rfl (by kernel_rfl) (by kernel_rfl) (by kernel_rfl) (by kernel_rfl) hTd.left Tryz.underlying25 rfl (by rw [HS0.out]; exact info_rec) ?_
            simp only [Act.put, List.setIfInBounds_toArray, List.set_cons_zero, List.set_cons_succ]
            refine g_one 2 (by kernel_rfl) ?_
            refine g_store 25 (.tmp 2) (.tmp 62) w.heap.size X0 rfl (by kernel_rfl) (by kernel_rfl) (by kernel_rfl) (by kernel_rfl) (by kernel_rfl) 25 ⟨_, hTd.1, rfl⟩ (by rw [HS0.out]; exact info_rec) HO0.out ?_
            intro W1 hg1 hb1
            have hT1 := hTd.put1 hne hg1 hb1
            refine g_one 3 (by kernel_rfl) ?_
            refine g_store 25 (.tmp 3) (.tmp 63) (w.heap.size + 1) X1 rfl (by kernel_rfl) (by kernel_rfl) (by kernel_rfl) (by kernel_rfl) (by kernel_rfl) 25 ⟨_, hT1.2, rfl⟩ (by rw [HS1.out]; exact info_rec) HO1.out ?_
            intro W2 hg2 hb2
            have hT2 := hT1.put2 hne hg2 hb2
            refine g_one 4 (by kernel_rfl) ?_
            refine g_pure (some 4) (.int .i64 160) rfl (by kernel_rfl) (by kernel_rfl) (by go_simp) ?_
            simp only [Act.put, List.setIfInBounds_toArray, List.set_cons_zero, List.set_cons_succ]
            refine wpAny_done (by kernel_rfl) ?_ _
            go_wp2
            exact bodyPost_ret (run_results_cell2_tmp Tryz.results9 _ _ w.heap.size (w.heap.size + 1) 25 X0 X1 (0, 0) (0, 0) _ (.int .i64 160) (by kernel_rfl) (by kernel_rfl) (by kernel_rfl) hT2.1 hT2.2 Tryz.underlying25 rfl (by rw [HS0.out]; exact info_rec) (by rw [HS1.out]; exact info_rec)) (by kernel_rfl) ⟨cfin_n_z HX0.out HX1.out (Int.not_lt.2 HLT.out) HZ.out, ((HGv.out.drew).then_new hg1 (fun x e => by omega)).then_new hg2 (fun x e => by omega)⟩
end Go.Proofs.YthhbdejagglgbaaGreat
