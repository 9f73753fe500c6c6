/- Commit records: Get on a disk that is up and has both sectors.
   The document's answer for layer 16 (citadelref16): May, Sector.
   The document's answer for layer 5 (citadelref05): a reader is made.
   The document's answer for layer 5 (citadelref05): the reader's methods.
   The document's disk as a plain value; it and the program's disk come to the same. No program, no world.
   Plain: what the document's Get tells of two sectors is what the program's tells; a record's bytes.
   The document's answer for layer 6 (citadelref06): its disk in memory. No walk.
   Plain: the document's disk in the midst of a crash, and of a flush.
   The document's disk (citadelref06): fall. -/
import Derived.Test.YtgmpacndjmmgjaaGreatMgCommitPlaysA
import Derived.Test.YtgmpacndjmmgjaaGreatMgCommitPlaysB
import Derived.Deep.RegionHeld3
import Derived.StillTailTactics
section
namespace Go.Proofs.YtgmpacndjmmgjaaGreat
open Go.RowKit
set_option linter.unusedVariables false

instance decRec : DecidableEq Rec := fun a b => decidable_of_iff (a.seqn = b.seqn ∧ a.slot = b.slot ∧ a.len = b.len ∧ a.trial = b.trial ∧ a.hash = b.hash) (by
  obtain ⟨a1, a2, a3, a4, a5⟩ := a
  obtain ⟨b1, b2, b3, b4, b5⟩ := b
  simp)

/-- the record of sector i -/
def cAt (D : Dk) (i : Nat) : Rec := if (recRd (D.at_ i)).2 = true ∧ (recRd (D.at_ i)).1.seqn % 2 = i then (recRd (D.at_ i)).1 else Rec.zero
/-- what Get tells of two sectors' records -/
def cTell (a b : Rec) : Rec × Rec × Int :=
  let p := if a.seqn < b.seqn then (b, a) else (a, b)
  if p.1 = Rec.zero then (p.1, p.2, 160) else if p.2.seqn ≠ p.1.seqn - 1 then (p.1, Rec.zero, 0) else (p.1, p.2, 0)

theorem chg_setCells (b : Nat) : ∀ (vs : List Value) (o : Nat) (w : World), Chg (fun k => k = b) w (w.setCells b o vs)
  | [], _, _ => Chg.refl _ _
  | v :: r, o, w => by
    rw [World.setCells]
    exact ((Chg.refl (fun k => k = b) w).setCell (p := ⟨b, o, none⟩) (.inl rfl) v).trans_same (chg_setCells b r (o + 1) _)

theorem wpList_store_midA {P : Program} {ops : Array Oper} {rest : List Oper} {op : Oper} {a : Act} {w : World} {Q : Exit → Act → World → Prop} (hgd : op.guard = none) (ty : TypeId) (x y : Operand) (ho : op.op = .store ty x y)
    (b o : Nat) (C : Array Value) (hx : a.eval x = .pointer (some ⟨b, o, none⟩)) (hy : a.eval y = .agg C) (ht : w.there b o C.size) (hi : (P.info? ty).map (·.size) = some C.size) (h1 : C.all (·.oneCell') = true)
    (h : ∀ W, Chg (fun k => k = b) w W → W.rangeAt b o C.toList → (∀ b' o' cs', w.rangeAt b' o' cs' → (b' ≠ b ∨ o' + cs'.length ≤ o ∨ o + C.toList.length ≤ o') → W.rangeAt b' o' cs') → (∀ b' o' n, w.there b' o' n → W.there b' o' n) → wpList P ops Q rest (a.put op.dst undef) W) :
    wpList P ops Q (op :: rest) a w :=
  wpList_store_mid hgd ty x y ho b o C hx hy ht hi h1 (h _ (chg_setCells b _ o w) (World.rangeAt_setCells_same w b o C.toList (by rw [Array.length_toList]; exact ht)) (fun b' o' cs' hr hap => World.rangeAt_setCells_apart hr b o C.toList hap) (fun b' o' n hn => World.there_setCells hn b o C.toList))

/-- what holds at the head of Get's loop -/
def GetInv (D : Dk) (w : World) (k : Nat) (wr : World) : Prop :=
  Two w.heap.size (w.heap.size + 1) recZ recZ wr ∧ wr.there (w.heap.size + 1 + 1) 0 72 ∧ wr.rangeAt (w.heap.size + 1 + 1) 0 (recA (if 0 < k then cAt D 0 else Rec.zero)).toList ∧
    wr.rangeAt (w.heap.size + 1 + 1) 36 (recA (if 1 < k then cAt D 1 else Rec.zero)).toList ∧ Chg Non w wr

theorem recRd_hash (s : List UInt8) : (recRd s).1.hash.length = 32 := recFields_hash _
theorem recRd_may {s : List UInt8} (h : (recRd s).2 = true) : (recRd s).1.may = true := by
  unfold recRd at h ⊢
  simp only [Bool.and_eq_true] at h
  exact h.2
theorem cAt_hash (D : Dk) (i : Nat) : (cAt D i).hash.length = 32 := by
  unfold cAt
  split
  · exact recRd_hash _
  · exact zTag_len
theorem cbounds_i64 (n : Nat) : -9223372036854775808 ≤ i64 n ∧ i64 n ≤ 9223372036854775807 := by
  unfold i64 wrap64
  omega
theorem crdInt_bd (l : List UInt8) (er : Int) : -9223372036854775808 ≤ (rdInt l er).1 ∧ (rdInt l er).1 ≤ 9223372036854775807 := by
  unfold rdInt
  split
  · split
    · exact cbounds_i64 _
    · simp
  · simp
theorem recRd_bd (s : List UInt8) : (recRd s).1.Bd := by
  refine ⟨recRd_hash s, ?_, ?_, ?_⟩
  · exact crdInt_bd _ _
  · obtain ⟨b, hb⟩ : ∃ b : UInt8, (recRd s).1.slot = (b.toNat : Int) := ⟨_, rfl⟩
    rw [hb]
    have := b.toNat_lt
    omega
  · exact crdInt_bd _ _
theorem cAt_bd (D : Dk) (i : Nat) : (cAt D i).Bd := by
  unfold cAt
  split
  · exact recRd_bd _
  · exact zero_bd
theorem cAt_seqn (D : Dk) (i : Nat) : 0 ≤ (cAt D i).seqn := by
  unfold cAt
  split
  · rename_i h
    have := (may_true (recRd_may h.1)).1
    omega
  · simp [Rec.zero]
theorem cat_len (D : Dk) (hok : D.Ok) (i : Nat) (hi : i < D.sec.length) : (D.at_ i).length = 64 := by
  unfold Dk.at_
  cases hl : look D.cache i with
  | some l =>
    unfold look at hl
    obtain ⟨p, hp, rfl⟩ := Option.map_eq_some_iff.1 hl
    exact (hok.keys p (List.mem_of_find?_eq_some hp)).2
  | none =>
    simp only [Option.getD_none, List.getD, List.getElem?_eq_getElem hi, Option.getD_some]
    exact hok.secs _ (List.getElem_mem hi)

theorem getInv_done {D : Dk} {w wr W : World} {k : Nat} (h : GetInv D w k wr) (hk : k = 0 ∨ k = 1) (hg : Chg Non wr W) (hz : cAt D k = Rec.zero) : GetInv D w (k + 1) W := by
  obtain ⟨h1, h2, h3, h4, h5⟩ := h
  have hr : ∀ o cs, wr.rangeAt (w.heap.size + 1 + 1) o cs → W.rangeAt (w.heap.size + 1 + 1) o cs := fun o cs hq j v hv => hg.cell_some (hq j v hv) (fun e => e)
  refine ⟨h1.non hg, fun j hj => ?_, ?_, ?_, h5.then_non hg⟩
  · obtain ⟨a1, a2⟩ := h2 j hj
    obtain ⟨u, hu⟩ := Option.isSome_iff_exists.1 a1
    exact ⟨by rw [hg.cell_some hu (fun e => e)]; rfl, (hg.frozen (lt_of_cell hu) (fun e => e)).trans a2⟩
  · rcases hk with rfl | rfl
    · have := hr _ _ h3
      simpa [hz] using this
    · simpa using hr _ _ h3
  · rcases hk with rfl | rfl
    · simpa using hr _ _ h4
    · have := hr _ _ h4
      simpa [hz] using this

theorem range_non {w W : World} {b o : Nat} {cs : List Value} (hg : Chg Non w W) (h : w.rangeAt b o cs) : W.rangeAt b o cs := fun j v hv => hg.cell_some (h j v hv) (fun e => e)
theorem there_non {w W : World} {b o n : Nat} (hg : Chg Non w W) (h : w.there b o n) : W.there b o n := fun j hj => by
  obtain ⟨a1, a2⟩ := h j hj
  obtain ⟨u, hu⟩ := Option.isSome_iff_exists.1 a1
  exact ⟨by rw [hg.cell_some hu (fun e => e)]; rfl, (hg.frozen (lt_of_cell hu) (fun e => e)).trans a2⟩

theorem there_part {w : World} {b n : Nat} (h : w.there b 0 n) (o m : Nat) (hm : o + m ≤ n) : w.there b o m := fun j hj => by
  have := h (o + j) (by omega)
  rw [Nat.zero_add] at this
  exact this
theorem getInv_on {D : Dk} {w wr W0 W : World} {k : Nat} (h : GetInv D w k wr) (hk : k = 0 ∨ k = 1) (hg : Chg Non wr W0) (hgW : Chg (fun x => x = w.heap.size + 1 + 1) W0 W)
    (hr : W.rangeAt (w.heap.size + 1 + 1) (36 * k) (recA (cAt D k)).toList)
    (hap : ∀ b' o' cs', W0.rangeAt b' o' cs' → (b' ≠ w.heap.size + 1 + 1 ∨ o' + cs'.length ≤ 36 * k ∨ 36 * k + (recA (cAt D k)).toList.length ≤ o') → W.rangeAt b' o' cs') (hth : ∀ b' o' n, W0.there b' o' n → W.there b' o' n) : GetInv D w (k + 1) W := by
  obtain ⟨h1, h2, h3, h4, h5⟩ := h
  have hl : (recA (cAt D k)).toList.length = 36 := by rw [Array.length_toList, recA_size _ (cAt_hash D k)]
  have hz : (recA Rec.zero).toList.length = 36 := by rw [Array.length_toList]; exact recZ_size
  have hl0 : (recA (cAt D 0)).toList.length = 36 := by rw [Array.length_toList, recA_size _ (cAt_hash D 0)]
  refine ⟨(h1.non hg).keep hgW (by omega) (by omega), hth _ _ _ (there_non hg h2), ?_, ?_, (h5.then_non hg).then_new hgW (fun x e => by omega)⟩
  · rcases hk with rfl | rfl
    · simpa using hr
    · have := hap _ _ _ (range_non hg h3) (.inr (.inl (by simp [hl0])))
      simpa using this
  · rcases hk with rfl | rfl
    · have := hap _ _ _ (range_non hg h4) (.inr (.inr (by simp [hl])))
      simpa using this
    · simpa using hr

theorem zero72 : #[(.int .i64 0 : Value), (.int .i64 0 : Value), (.int .i64 0 : Value), .bool false, .int .u8 0, .int .u8 0, .int .u8 0, .int .u8 0, .int .u8 0, .int .u8 0, .int .u8 0, .int .u8 0, .int .u8 0, .int .u8 0, .int .u8 0, .int .u8 0, .int .u8 0, .int .u8 0, .int .u8 0, .int .u8 0, .int .u8 0, .int .u8 0, .int .u8 0, .int .u8 0, .int .u8 0, .int .u8 0, .int .u8 0, .int .u8 0, .int .u8 0, .int .u8 0, .int .u8 0, .int .u8 0, .int .u8 0, .int .u8 0, .int .u8 0, .int .u8 0, (.int .i64 0 : Value), (.int .i64 0 : Value), (.int .i64 0 : Value), .bool false, .int .u8 0, .int .u8 0, .int .u8 0, .int .u8 0, .int .u8 0, .int .u8 0, .int .u8 0, .int .u8 0, .int .u8 0, .int .u8 0, .int .u8 0, .int .u8 0, .int .u8 0, .int .u8 0, .int .u8 0, .int .u8 0, .int .u8 0, .int .u8 0, .int .u8 0, .int .u8 0, .int .u8 0, .int .u8 0, .int .u8 0, .int .u8 0, .int .u8 0, .int .u8 0, .int .u8 0, .int .u8 0, .int .u8 0, .int .u8 0, .int .u8 0, .int .u8 0] = recZ ++ recZ := by kernel_rfl
theorem zero72a (j : Nat) (v : Value) (h : recZ[j]? = some v) : ((#[(.int .i64 0 : Value), (.int .i64 0 : Value), (.int .i64 0 : Value), .bool false, .int .u8 0, .int .u8 0, .int .u8 0, .int .u8 0, .int .u8 0, .int .u8 0, .int .u8 0, .int .u8 0, .int .u8 0, .int .u8 0, .int .u8 0, .int .u8 0, .int .u8 0, .int .u8 0, .int .u8 0, .int .u8 0, .int .u8 0, .int .u8 0, .int .u8 0, .int .u8 0, .int .u8 0, .int .u8 0, .int .u8 0, .int .u8 0, .int .u8 0, .int .u8 0, .int .u8 0, .int .u8 0, .int .u8 0, .int .u8 0, .int .u8 0, .int .u8 0, (.int .i64 0 : Value), (.int .i64 0 : Value), (.int .i64 0 : Value), .bool false, .int .u8 0, .int .u8 0, .int .u8 0, .int .u8 0, .int .u8 0, .int .u8 0, .int .u8 0, .int .u8 0, .int .u8 0, .int .u8 0, .int .u8 0, .int .u8 0, .int .u8 0, .int .u8 0, .int .u8 0, .int .u8 0, .int .u8 0, .int .u8 0, .int .u8 0, .int .u8 0, .int .u8 0, .int .u8 0, .int .u8 0, .int .u8 0, .int .u8 0, .int .u8 0, .int .u8 0, .int .u8 0, .int .u8 0, .int .u8 0, .int .u8 0, .int .u8 0] : Array Value))[0 + j]? = some v := by
  rw [zero72, Nat.zero_add, Array.getElem?_append_left (Array.getElem?_eq_some_iff.1 h).1]
  exact h
theorem zero72c (j : Nat) (h : j < 72) : (((#[(.int .i64 0 : Value), (.int .i64 0 : Value), (.int .i64 0 : Value), .bool false, .int .u8 0, .int .u8 0, .int .u8 0, .int .u8 0, .int .u8 0, .int .u8 0, .int .u8 0, .int .u8 0, .int .u8 0, .int .u8 0, .int .u8 0, .int .u8 0, .int .u8 0, .int .u8 0, .int .u8 0, .int .u8 0, .int .u8 0, .int .u8 0, .int .u8 0, .int .u8 0, .int .u8 0, .int .u8 0, .int .u8 0, .int .u8 0, .int .u8 0, .int .u8 0, .int .u8 0, .int .u8 0, .int .u8 0, .int .u8 0, .int .u8 0, .int .u8 0, (.int .i64 0 : Value), (.int .i64 0 : Value), (.int .i64 0 : Value), .bool false, .int .u8 0, .int .u8 0, .int .u8 0, .int .u8 0, .int .u8 0, .int .u8 0, .int .u8 0, .int .u8 0, .int .u8 0, .int .u8 0, .int .u8 0, .int .u8 0, .int .u8 0, .int .u8 0, .int .u8 0, .int .u8 0, .int .u8 0, .int .u8 0, .int .u8 0, .int .u8 0, .int .u8 0, .int .u8 0, .int .u8 0, .int .u8 0, .int .u8 0, .int .u8 0, .int .u8 0, .int .u8 0, .int .u8 0, .int .u8 0, .int .u8 0, .int .u8 0] : Array Value))[0 + j]?).isSome = true := by
  rw [zero72, Nat.zero_add, Array.getElem?_eq_getElem (by rw [Array.size_append, recZ_size]; exact h)]
  rfl
theorem zero72b (j : Nat) (v : Value) (h : recZ[j]? = some v) : ((#[(.int .i64 0 : Value), (.int .i64 0 : Value), (.int .i64 0 : Value), .bool false, .int .u8 0, .int .u8 0, .int .u8 0, .int .u8 0, .int .u8 0, .int .u8 0, .int .u8 0, .int .u8 0, .int .u8 0, .int .u8 0, .int .u8 0, .int .u8 0, .int .u8 0, .int .u8 0, .int .u8 0, .int .u8 0, .int .u8 0, .int .u8 0, .int .u8 0, .int .u8 0, .int .u8 0, .int .u8 0, .int .u8 0, .int .u8 0, .int .u8 0, .int .u8 0, .int .u8 0, .int .u8 0, .int .u8 0, .int .u8 0, .int .u8 0, .int .u8 0, (.int .i64 0 : Value), (.int .i64 0 : Value), (.int .i64 0 : Value), .bool false, .int .u8 0, .int .u8 0, .int .u8 0, .int .u8 0, .int .u8 0, .int .u8 0, .int .u8 0, .int .u8 0, .int .u8 0, .int .u8 0, .int .u8 0, .int .u8 0, .int .u8 0, .int .u8 0, .int .u8 0, .int .u8 0, .int .u8 0, .int .u8 0, .int .u8 0, .int .u8 0, .int .u8 0, .int .u8 0, .int .u8 0, .int .u8 0, .int .u8 0, .int .u8 0, .int .u8 0, .int .u8 0, .int .u8 0, .int .u8 0, .int .u8 0, .int .u8 0] : Array Value))[36 + j]? = some v := by
  rw [zero72, Array.getElem?_append_right (by rw [recZ_size]; omega), recZ_size, Nat.add_sub_cancel_left]
  exact h
theorem range_keep {T : Nat → Prop} {w W : World} {b o : Nat} {cs : List Value} (hg : Chg T w W) (h : w.rangeAt b o cs) (hb : ¬ T b) : W.rangeAt b o cs := fun j v hv => hg.cell_some (h j v hv) hb

theorem ret3 {a b : Array Value} {x : Int} {a' b' : Array Value} {x' : Int} (h1 : a = a') (h2 : b = b') (h3 : x = x') : Ending.returned (.tuple #[.agg a, .agg b, .int .i64 x]) = .returned (.tuple #[.agg a', .agg b', .int .i64 x']) := by rw [h1, h2, h3]
section
variable {R0 R1 : Rec} {X0 X1 : Array Value} {l m : Int}
theorem cfin_n_z (h0 : recA R0 = X0) (h1 : recA R1 = X1) (hlt : ¬ R0.seqn < R1.seqn) (hz : R0 = Rec.zero) : Ending.returned (.tuple #[.agg X0, .agg X1, .int .i64 160]) = .returned (.tuple #[.agg (recA (cTell R0 R1).1), .agg (recA (cTell R0 R1).2.1), .int .i64 (cTell R0 R1).2.2]) := by
  have e : cTell R0 R1 = (R0, R1, 160) := by
    unfold cTell
    rw [if_neg hlt]
    exact if_pos hz
  rw [e]
  exact ret3 h0.symm h1.symm rfl
theorem cfin_n_eq (h0 : recA R0 = X0) (h1 : recA R1 = X1) (hlt : ¬ R0.seqn < R1.seqn) (hz : ¬ R0 = Rec.zero) (hm : R1.seqn = m) (hl : R0.seqn = l) (hn : m = l - 1) : Ending.returned (.tuple #[.agg X0, .agg X1, .int .i64 0]) = .returned (.tuple #[.agg (recA (cTell R0 R1).1), .agg (recA (cTell R0 R1).2.1), .int .i64 (cTell R0 R1).2.2]) := by
  have e : cTell R0 R1 = (R0, R1, 0) := by
    unfold cTell
    rw [if_neg hlt]
    exact (if_neg hz).trans (if_neg (by show ¬ (R1.seqn ≠ R0.seqn - 1); omega))
  rw [e]
  exact ret3 h0.symm h1.symm rfl
theorem cfin_n_ne (h0 : recA R0 = X0) (h1 : recA R1 = X1) (hlt : ¬ R0.seqn < R1.seqn) (hz : ¬ R0 = Rec.zero) (hm : R1.seqn = m) (hl : R0.seqn = l) (hn : ¬ m = l - 1) : Ending.returned (.tuple #[.agg X0, .agg recZ, .int .i64 0]) = .returned (.tuple #[.agg (recA (cTell R0 R1).1), .agg (recA (cTell R0 R1).2.1), .int .i64 (cTell R0 R1).2.2]) := by
  have e : cTell R0 R1 = (R0, Rec.zero, 0) := by
    unfold cTell
    rw [if_neg hlt]
    exact (if_neg hz).trans (if_pos (by show R1.seqn ≠ R0.seqn - 1; omega))
  rw [e]
  exact ret3 h0.symm rfl rfl
theorem cfin_s_z (h0 : recA R0 = X0) (h1 : recA R1 = X1) (hlt : R0.seqn < R1.seqn) (hz : R1 = Rec.zero) : Ending.returned (.tuple #[.agg X1, .agg X0, .int .i64 160]) = .returned (.tuple #[.agg (recA (cTell R0 R1).1), .agg (recA (cTell R0 R1).2.1), .int .i64 (cTell R0 R1).2.2]) := by
  have e : cTell R0 R1 = (R1, R0, 160) := by
    unfold cTell
    rw [if_pos hlt]
    exact if_pos hz
  rw [e]
  exact ret3 h1.symm h0.symm rfl
theorem cfin_s_eq (h0 : recA R0 = X0) (h1 : recA R1 = X1) (hlt : R0.seqn < R1.seqn) (hz : ¬ R1 = Rec.zero) (hm : R0.seqn = m) (hl : R1.seqn = l) (hn : m = l - 1) : Ending.returned (.tuple #[.agg X1, .agg X0, .int .i64 0]) = .returned (.tuple #[.agg (recA (cTell R0 R1).1), .agg (recA (cTell R0 R1).2.1), .int .i64 (cTell R0 R1).2.2]) := by
  have e : cTell R0 R1 = (R1, R0, 0) := by
    unfold cTell
    rw [if_pos hlt]
    exact (if_neg hz).trans (if_neg (by show ¬ (R0.seqn ≠ R1.seqn - 1); omega))
  rw [e]
  exact ret3 h1.symm h0.symm rfl
theorem cfin_s_ne (h0 : recA R0 = X0) (h1 : recA R1 = X1) (hlt : R0.seqn < R1.seqn) (hz : ¬ R1 = Rec.zero) (hm : R0.seqn = m) (hl : R1.seqn = l) (hn : ¬ m = l - 1) : Ending.returned (.tuple #[.agg X1, .agg recZ, .int .i64 0]) = .returned (.tuple #[.agg (recA (cTell R0 R1).1), .agg (recA (cTell R0 R1).2.1), .int .i64 (cTell R0 R1).2.2]) := by
  have e : cTell R0 R1 = (R1, Rec.zero, 0) := by
    unfold cTell
    rw [if_pos hlt]
    exact (if_neg hz).trans (if_pos (by show R0.seqn ≠ R1.seqn - 1; omega))
  rw [e]
  exact ret3 h1.symm rfl rfl
end

set_option maxRecDepth 100000 in
set_option maxHeartbeats 4000000 in
theorem cGet_up (pd ps pm : Nat) (D : Dk) (w : World) (h : IsD w pd ps pm D) (hup : D.up = true) (hlen : 2 ≤ D.sec.length) :
    Calls Tryz.prog 11 #[.pointer (some ⟨pd, 0, none⟩)] w fun e w' => e = .returned (.tuple #[.agg (recA (cTell (cAt D 0) (cAt D 1)).1), .agg (recA (cTell (cAt D 0) (cAt D 1)).2.1), .int .i64 (cTell (cAt D 0) (cAt D 1)).2.2]) ∧ Chg Non w w' := by
  have HL := Lib.hid (fun W hg => Len_ok pd ps pm D W (h.non hg))
  have hlz : ((D.sec.length : Int) == 0) = false := beq_eq_false_iff_ne.2 (by omega)
  have HRd0 := Lib.hid (fun W hg => Read_any pd ps pm D 0 W (h.non hg) hup (by omega))
  have HRd1 := Lib.hid (fun W hg => Read_any pd ps pm D 1 W (h.non hg) hup (by omega))
  have hl0 := cat_len D h.1 0 (by omega)
  have hl1 := cat_len D h.1 1 (by omega)
  have HR0 := Lib.hid (fun A c W (h1 : Rd W A (D.at_ 0)) (h2 : (D.at_ 0).length ≤ c) (h3 : c ≤ maxLen) => recRead_any A (D.at_ 0) c W h1 (by omega) (by omega) h2 h3)
  have HR1 := Lib.hid (fun A c W (h1 : Rd W A (D.at_ 1)) (h2 : (D.at_ 1).length ≤ c) (h3 : c ≤ maxLen) => recRead_any A (D.at_ 1) c W h1 (by omega) (by omega) h2 h3)
  clear hl0 hl1 h hup
  go_enter Tryz.func11, Tryz.ntmps11
  go_wp2_with fail
  refine (HL.out _ (((Chg.refl Non w).alloc _).alloc _)).mono ?_
  rintro e w' ⟨rfl, rfl⟩
  go_wp2_with fail
  go_loopw [16] (fun i wr => ∃ k : Nat, k ≤ 2 ∧ i = .int .i64 k ∧ GetInv D w k wr) (fun i _ => 2 - (intOf i).toNat)
  case atStart =>
    refine ⟨0, by omega, rfl, ?_⟩
    have e2 : ∀ o o' : Obj, ((w.alloc o).alloc o').heap.size = w.heap.size + 1 + 1 := fun o o' => by simp
    have b5 : ∀ o o' o'' : Obj, (((w.alloc o).alloc o').alloc o'').heap[w.heap.size + 1 + 1]? = some o'' := fun o o' o'' => by
      have := heap_alloc_new ((w.alloc o).alloc o') o''
      rw [e2] at this
      exact this
    refine ⟨⟨?_, ?_⟩, ?_, ?_, ?_, ((((Chg.refl Non w).alloc _).alloc _).alloc _)⟩
    · rw [Below.heap_alloc _ _ _ (by rw [e2]; omega)]; exact heap_alloc2_old _ _ _
    · rw [Below.heap_alloc _ _ _ (by rw [e2]; omega)]; exact heap_alloc2_new _ _ _
    · intro j hj
      rw [cell_of_row _ _ _ _ _ _ (b5 _ _ _)]
      exact ⟨zero72c j hj, frozen_of_row _ _ _ _ _ (b5 _ _ _)⟩
    · intro j v hv
      rw [cell_of_row _ _ _ _ _ _ (b5 _ _ _)]
      exact zero72a j v (show (recA Rec.zero)[j]? = some v by simpa using hv)
    · intro j v hv
      rw [cell_of_row _ _ _ _ _ _ (b5 _ _ _)]
      exact zero72b j v (show (recA Rec.zero)[j]? = some v by simpa using hv)
  case round =>
    obtain ⟨k, hk, rfl, hI⟩ := hrel
    have HI := Lib.hid hI
    clear hI
    by_cases hk2 : k < 2
    · obtain rfl | rfl : k = 0 ∨ k = 1 := by omega
      · by_cases hok : (recRd (D.at_ 0)).2 = true
        · by_cases hsq : (recRd (D.at_ 0)).1.seqn % 2 = 0
          · skip
            have HR := Lib.hid (fun A c W h1 h2 h3 => (HR0.out A c W h1 h2 h3))
            rw [hok] at HR
            have HXS := Lib.hid (recA_size _ (recRd_hash (D.at_ 0)))
            have HX1 := Lib.hid (recA_one (recRd (D.at_ 0)).1)
            have HX0 := Lib.hid (recA_0 (recRd (D.at_ 0)).1)
            have HCA : Hid (cAt D 0 = (recRd (D.at_ 0)).1) := Lib.hid (by unfold cAt; rw [if_pos ⟨hok, hsq⟩])
            have hq : ((recRd (D.at_ 0)).1.seqn % 2 == 0) = true := by rw [beq_iff_eq]; exact hsq
            have h0 := (may_true (recRd_may hok)).1
            obtain ⟨sq, hsqq⟩ : ∃ sq, (recRd (D.at_ 0)).1.seqn = sq := ⟨_, rfl⟩
            rw [hsqq] at h0 hq HX0
            have h00 : 0 ≤ sq := by omega
            have htm : sq.tmod 2 = sq % 2 := Int.tmod_eq_emod_of_nonneg h00
            have hr0 : 0 ≤ sq % 2 := by omega
            have hr1 : sq % 2 < 2 := by omega
            have hwr : IntKind.i64.wrap (sq % 2) = sq % 2 := Go.IntWalk.i64_in _ (by omega)
            obtain ⟨X, hX⟩ : ∃ X, recA (recRd (D.at_ 0)).1 = X := ⟨_, rfl⟩
            rw [hX] at HR HXS HX1 HX0
            have HCX : Hid (recA (cAt D 0) = X) := Lib.hid (by rw [HCA.out]; exact hX)
            clear hX hok hsq hsqq h0
            go_wp2_with fail
            refine (HRd0.out wr HI.out.2.2.2.2).mono ?_
            rintro e w1 ⟨A1, c1, rfl, hc1, hm1, ho1, hg1⟩
            go_wp2_with fail
            refine (HR.out A1 c1 w1 ho1.rd hc1 hm1).mono ?_
            rintro e w2 ⟨rfl, hg2⟩
            have hgr : Chg Non wr w2 := hg1.then_non hg2
            go_wp2_with (first
              | (refine sel none (.store 34 (.tmp 9) (.tmp 34)) ?_
                 refine wpList_store_rowA rfl 34 (.tmp 9) (.tmp 34) rfl w2.heap.size X rfl rfl 34 _ (heap_alloc_new _ _) (by rw [HXS.out]; exact info_rec) (by rw [HXS.out]; rfl) HX1.out ?_
                 intro W hgW hbW
                 have HB := Lib.hid hbW
                 have HGW := Lib.hid ((hgr.alloc _).then_new hgW (fun x e => by have := hgr.size; omega))
                 have kq : W.cell? ⟨w2.heap.size, 0, none⟩ = some (.int .i64 sq) := by rw [cell_of_row _ _ _ _ _ _ hbW]; exact HX0.out
                 clear hgW hbW)
              | (refine sel (some 45) (.load 34 (.tmp 9)) ?_
                 refine wpList_load_rec rfl (.tmp 9) rfl w2.heap.size 0 rfl X (range_block HB.out) HXS.out ?_)
              | (refine sel none (.store 34 (.tmp 46) (.tmp 45)) ?_
                 refine wpList_store_midA rfl 34 (.tmp 46) (.tmp 45) rfl (w.heap.size + 1 + 1) 0 X rfl rfl (by rw [HXS.out]; exact there_part (there_non HGW.out HI.out.2.1) 0 36 (by omega)) (by rw [HXS.out]; exact info_rec) HX1.out ?_
                 intro W2 hgW2 hr2 hap2 hth2
                 have HGW2 := Lib.hid hgW2
                 have HR2 := Lib.hid hr2
                 have HAP2 := Lib.hid hap2
                 have HTH2 := Lib.hid hth2
                 clear hgW2 hr2 hap2 hth2))
            rw [← HCX.out] at HR2 HAP2
            exact ⟨⟨1, by omega, rfl, getInv_on HI.out (.inl rfl) HGW.out HGW2.out HR2.out HAP2.out HTH2.out⟩, by simp [intOf]⟩
          · skip
            have HR := Lib.hid (fun A c W h1 h2 h3 => (HR0.out A c W h1 h2 h3))
            rw [hok] at HR
            have HXS := Lib.hid (recA_size _ (recRd_hash (D.at_ 0)))
            have HX1 := Lib.hid (recA_one (recRd (D.at_ 0)).1)
            have HX0 := Lib.hid (recA_0 (recRd (D.at_ 0)).1)
            have HCZ : Hid (cAt D 0 = Rec.zero) := Lib.hid (by unfold cAt; rw [if_neg (fun e => hsq e.2)])
            have hq : ((recRd (D.at_ 0)).1.seqn % 2 == 0) = false := by rw [beq_eq_false_iff_ne]; exact hsq
            have h0 := (may_true (recRd_may hok)).1
            obtain ⟨sq, hsqq⟩ : ∃ sq, (recRd (D.at_ 0)).1.seqn = sq := ⟨_, rfl⟩
            rw [hsqq] at h0 hq HX0
            have h00 : 0 ≤ sq := by omega
            have htm : sq.tmod 2 = sq % 2 := Int.tmod_eq_emod_of_nonneg h00
            have hr0 : 0 ≤ sq % 2 := by omega
            have hr1 : sq % 2 < 2 := by omega
            have hwr : IntKind.i64.wrap (sq % 2) = sq % 2 := Go.IntWalk.i64_in _ (by omega)
            obtain ⟨X, hX⟩ : ∃ X, recA (recRd (D.at_ 0)).1 = X := ⟨_, rfl⟩
            rw [hX] at HR HXS HX1 HX0
            clear hX hok hsq hsqq h0
            go_wp2_with fail
            refine (HRd0.out wr HI.out.2.2.2.2).mono ?_
            rintro e w1 ⟨A1, c1, rfl, hc1, hm1, ho1, hg1⟩
            go_wp2_with fail
            refine (HR.out A1 c1 w1 ho1.rd hc1 hm1).mono ?_
            rintro e w2 ⟨rfl, hg2⟩
            have hgr : Chg Non wr w2 := hg1.then_non hg2
            go_wp2_with (first
              | (refine sel none (.store 34 (.tmp 9) (.tmp 34)) ?_
                 refine wpList_store_rowA rfl 34 (.tmp 9) (.tmp 34) rfl w2.heap.size X rfl rfl 34 _ (heap_alloc_new _ _) (by rw [HXS.out]; exact info_rec) (by rw [HXS.out]; rfl) HX1.out ?_
                 intro W hgW hbW
                 have HB := Lib.hid hbW
                 have HGW := Lib.hid ((hgr.alloc _).then_new hgW (fun x e => by have := hgr.size; omega))
                 have kq : W.cell? ⟨w2.heap.size, 0, none⟩ = some (.int .i64 sq) := by rw [cell_of_row _ _ _ _ _ _ hbW]; exact HX0.out
                 clear hgW hbW))
            exact ⟨⟨1, by omega, rfl, getInv_done HI.out (.inl rfl) HGW.out HCZ.out⟩, by simp [intOf]⟩
        · skip
          have hkf : (recRd (D.at_ 0)).2 = false := by simpa using hok
          have HR := Lib.hid (fun A c W h1 h2 h3 => (HR0.out A c W h1 h2 h3))
          rw [hkf] at HR
          have HXS := Lib.hid (recA_size _ (recRd_hash (D.at_ 0)))
          have HX1 := Lib.hid (recA_one (recRd (D.at_ 0)).1)
          have HX0 := Lib.hid (recA_0 (recRd (D.at_ 0)).1)
          have HCZ : Hid (cAt D 0 = Rec.zero) := Lib.hid (by unfold cAt; rw [if_neg (fun e => hok e.1)])
          obtain ⟨X, hX⟩ : ∃ X, recA (recRd (D.at_ 0)).1 = X := ⟨_, rfl⟩
          rw [hX] at HR HXS HX1 HX0
          clear hX hok hkf
          go_wp2_with fail
          refine (HRd0.out wr HI.out.2.2.2.2).mono ?_
          rintro e w1 ⟨A1, c1, rfl, hc1, hm1, ho1, hg1⟩
          go_wp2_with fail
          refine (HR.out A1 c1 w1 ho1.rd hc1 hm1).mono ?_
          rintro e w2 ⟨rfl, hg2⟩
          have hgr : Chg Non wr w2 := hg1.then_non hg2
          go_wp2_with (first
            | (refine sel none (.store 34 (.tmp 9) (.tmp 34)) ?_
               refine wpList_store_rowA rfl 34 (.tmp 9) (.tmp 34) rfl w2.heap.size X rfl rfl 34 _ (heap_alloc_new _ _) (by rw [HXS.out]; exact info_rec) (by rw [HXS.out]; rfl) HX1.out ?_
               intro W hgW hbW
               have HB := Lib.hid hbW
               have HGW := Lib.hid ((hgr.alloc _).then_new hgW (fun x e => by have := hgr.size; omega))
               clear hgW hbW))
          exact ⟨⟨1, by omega, rfl, getInv_done HI.out (.inl rfl) HGW.out HCZ.out⟩, by simp [intOf]⟩
      · by_cases hok : (recRd (D.at_ 1)).2 = true
        · by_cases hsq : (recRd (D.at_ 1)).1.seqn % 2 = 1
          · skip
            have HR := Lib.hid (fun A c W h1 h2 h3 => (HR1.out A c W h1 h2 h3))
            rw [hok] at HR
            have HXS := Lib.hid (recA_size _ (recRd_hash (D.at_ 1)))
            have HX1 := Lib.hid (recA_one (recRd (D.at_ 1)).1)
            have HX0 := Lib.hid (recA_0 (recRd (D.at_ 1)).1)
            have HCA : Hid (cAt D 1 = (recRd (D.at_ 1)).1) := Lib.hid (by unfold cAt; rw [if_pos ⟨hok, hsq⟩])
            have hq : ((recRd (D.at_ 1)).1.seqn % 2 == 1) = true := by rw [beq_iff_eq]; exact hsq
            have h0 := (may_true (recRd_may hok)).1
            obtain ⟨sq, hsqq⟩ : ∃ sq, (recRd (D.at_ 1)).1.seqn = sq := ⟨_, rfl⟩
            rw [hsqq] at h0 hq HX0
            have h00 : 0 ≤ sq := by omega
            have htm : sq.tmod 2 = sq % 2 := Int.tmod_eq_emod_of_nonneg h00
            have hr0 : 0 ≤ sq % 2 := by omega
            have hr1 : sq % 2 < 2 := by omega
            have hwr : IntKind.i64.wrap (sq % 2) = sq % 2 := Go.IntWalk.i64_in _ (by omega)
            obtain ⟨X, hX⟩ : ∃ X, recA (recRd (D.at_ 1)).1 = X := ⟨_, rfl⟩
            rw [hX] at HR HXS HX1 HX0
            have HCX : Hid (recA (cAt D 1) = X) := Lib.hid (by rw [HCA.out]; exact hX)
            clear hX hok hsq hsqq h0
            go_wp2_with fail
            refine (HRd1.out wr HI.out.2.2.2.2).mono ?_
            rintro e w1 ⟨A1, c1, rfl, hc1, hm1, ho1, hg1⟩
            go_wp2_with fail
            refine (HR.out A1 c1 w1 ho1.rd hc1 hm1).mono ?_
            rintro e w2 ⟨rfl, hg2⟩
            have hgr : Chg Non wr w2 := hg1.then_non hg2
            go_wp2_with (first
              | (refine sel none (.store 34 (.tmp 9) (.tmp 34)) ?_
                 refine wpList_store_rowA rfl 34 (.tmp 9) (.tmp 34) rfl w2.heap.size X rfl rfl 34 _ (heap_alloc_new _ _) (by rw [HXS.out]; exact info_rec) (by rw [HXS.out]; rfl) HX1.out ?_
                 intro W hgW hbW
                 have HB := Lib.hid hbW
                 have HGW := Lib.hid ((hgr.alloc _).then_new hgW (fun x e => by have := hgr.size; omega))
                 have kq : W.cell? ⟨w2.heap.size, 0, none⟩ = some (.int .i64 sq) := by rw [cell_of_row _ _ _ _ _ _ hbW]; exact HX0.out
                 clear hgW hbW)
              | (refine sel (some 45) (.load 34 (.tmp 9)) ?_
                 refine wpList_load_rec rfl (.tmp 9) rfl w2.heap.size 0 rfl X (range_block HB.out) HXS.out ?_)
              | (refine sel none (.store 34 (.tmp 46) (.tmp 45)) ?_
                 refine wpList_store_midA rfl 34 (.tmp 46) (.tmp 45) rfl (w.heap.size + 1 + 1) 36 X rfl rfl (by rw [HXS.out]; exact there_part (there_non HGW.out HI.out.2.1) 36 36 (by omega)) (by rw [HXS.out]; exact info_rec) HX1.out ?_
                 intro W2 hgW2 hr2 hap2 hth2
                 have HGW2 := Lib.hid hgW2
                 have HR2 := Lib.hid hr2
                 have HAP2 := Lib.hid hap2
                 have HTH2 := Lib.hid hth2
                 clear hgW2 hr2 hap2 hth2))
            rw [← HCX.out] at HR2 HAP2
            exact ⟨⟨2, by omega, rfl, getInv_on HI.out (.inr rfl) HGW.out HGW2.out HR2.out HAP2.out HTH2.out⟩, by simp [intOf]⟩
          · skip
            have HR := Lib.hid (fun A c W h1 h2 h3 => (HR1.out A c W h1 h2 h3))
            rw [hok] at HR
            have HXS := Lib.hid (recA_size _ (recRd_hash (D.at_ 1)))
            have HX1 := Lib.hid (recA_one (recRd (D.at_ 1)).1)
            have HX0 := Lib.hid (recA_0 (recRd (D.at_ 1)).1)
            have HCZ : Hid (cAt D 1 = Rec.zero) := Lib.hid (by unfold cAt; rw [if_neg (fun e => hsq e.2)])
            have hq : ((recRd (D.at_ 1)).1.seqn % 2 == 1) = false := by rw [beq_eq_false_iff_ne]; exact hsq
            have h0 := (may_true (recRd_may hok)).1
            obtain ⟨sq, hsqq⟩ : ∃ sq, (recRd (D.at_ 1)).1.seqn = sq := ⟨_, rfl⟩
            rw [hsqq] at h0 hq HX0
            have h00 : 0 ≤ sq := by omega
            have htm : sq.tmod 2 = sq % 2 := Int.tmod_eq_emod_of_nonneg h00
            have hr0 : 0 ≤ sq % 2 := by omega
            have hr1 : sq % 2 < 2 := by omega
            have hwr : IntKind.i64.wrap (sq % 2) = sq % 2 := Go.IntWalk.i64_in _ (by omega)
            obtain ⟨X, hX⟩ : ∃ X, recA (recRd (D.at_ 1)).1 = X := ⟨_, rfl⟩
            rw [hX] at HR HXS HX1 HX0
            clear hX hok hsq hsqq h0
            go_wp2_with fail
            refine (HRd1.out wr HI.out.2.2.2.2).mono ?_
            rintro e w1 ⟨A1, c1, rfl, hc1, hm1, ho1, hg1⟩
            go_wp2_with fail
            refine (HR.out A1 c1 w1 ho1.rd hc1 hm1).mono ?_
            rintro e w2 ⟨rfl, hg2⟩
            have hgr : Chg Non wr w2 := hg1.then_non hg2
            go_wp2_with (first
              | (refine sel none (.store 34 (.tmp 9) (.tmp 34)) ?_
                 refine wpList_store_rowA rfl 34 (.tmp 9) (.tmp 34) rfl w2.heap.size X rfl rfl 34 _ (heap_alloc_new _ _) (by rw [HXS.out]; exact info_rec) (by rw [HXS.out]; rfl) HX1.out ?_
                 intro W hgW hbW
                 have HB := Lib.hid hbW
                 have HGW := Lib.hid ((hgr.alloc _).then_new hgW (fun x e => by have := hgr.size; omega))
                 have kq : W.cell? ⟨w2.heap.size, 0, none⟩ = some (.int .i64 sq) := by rw [cell_of_row _ _ _ _ _ _ hbW]; exact HX0.out
                 clear hgW hbW))
            exact ⟨⟨2, by omega, rfl, getInv_done HI.out (.inr rfl) HGW.out HCZ.out⟩, by simp [intOf]⟩
        · skip
          have hkf : (recRd (D.at_ 1)).2 = false := by simpa using hok
          have HR := Lib.hid (fun A c W h1 h2 h3 => (HR1.out A c W h1 h2 h3))
          rw [hkf] at HR
          have HXS := Lib.hid (recA_size _ (recRd_hash (D.at_ 1)))
          have HX1 := Lib.hid (recA_one (recRd (D.at_ 1)).1)
          have HX0 := Lib.hid (recA_0 (recRd (D.at_ 1)).1)
          have HCZ : Hid (cAt D 1 = Rec.zero) := Lib.hid (by unfold cAt; rw [if_neg (fun e => hok e.1)])
          obtain ⟨X, hX⟩ : ∃ X, recA (recRd (D.at_ 1)).1 = X := ⟨_, rfl⟩
          rw [hX] at HR HXS HX1 HX0
          clear hX hok hkf
          go_wp2_with fail
          refine (HRd1.out wr HI.out.2.2.2.2).mono ?_
          rintro e w1 ⟨A1, c1, rfl, hc1, hm1, ho1, hg1⟩
          go_wp2_with fail
          refine (HR.out A1 c1 w1 ho1.rd hc1 hm1).mono ?_
          rintro e w2 ⟨rfl, hg2⟩
          have hgr : Chg Non wr w2 := hg1.then_non hg2
          go_wp2_with (first
            | (refine sel none (.store 34 (.tmp 9) (.tmp 34)) ?_
               refine wpList_store_rowA rfl 34 (.tmp 9) (.tmp 34) rfl w2.heap.size X rfl rfl 34 _ (heap_alloc_new _ _) (by rw [HXS.out]; exact info_rec) (by rw [HXS.out]; rfl) HX1.out ?_
               intro W hgW hbW
               have HB := Lib.hid hbW
               have HGW := Lib.hid ((hgr.alloc _).then_new hgW (fun x e => by have := hgr.size; omega))
               clear hgW hbW))
          exact ⟨⟨2, by omega, rfl, getInv_done HI.out (.inr rfl) HGW.out HCZ.out⟩, by simp [intOf]⟩
    · obtain rfl : k = 2 := by omega
      obtain ⟨i1, i2, i3, i4, i5⟩ := HI.out
      have HT0 := Lib.hid (show Two w.heap.size (w.heap.size + 1) recZ recZ wr.drew from i1)
      have HGr := Lib.hid i5.drew
      have HS0 := Lib.hid (recA_size _ (cAt_hash D 0))
      have HS1 := Lib.hid (recA_size _ (cAt_hash D 1))
      have HO0 := Lib.hid (recA_one (cAt D 0))
      have HO1 := Lib.hid (recA_one (cAt D 1))
      have HC0 := Lib.hid (recA_0 (cAt D 0))
      have HC1 := Lib.hid (recA_0 (cAt D 1))
      have H30 : Hid (wr.drew.rangeAt (w.heap.size + 1 + 1) 0 (recA (cAt D 0)).toList) := Lib.hid (by simpa using i3)
      have H31 : Hid (wr.drew.rangeAt (w.heap.size + 1 + 1) 36 (recA (cAt D 1)).toList) := Lib.hid (by simpa using i4)
      have hne : w.heap.size ≠ w.heap.size + 1 := by omega
      have hne2 : w.heap.size + 1 + 1 ≠ w.heap.size := by omega
      clear i1 i2 i3 i4 i5 HI HR0 HR1 HRd0 HRd1 HL
      obtain ⟨X0, hX0⟩ : ∃ X, recA (cAt D 0) = X := ⟨_, rfl⟩
      obtain ⟨X1, hX1⟩ : ∃ X, recA (cAt D 1) = X := ⟨_, rfl⟩
      rw [hX0] at HS0 HO0 HC0 H30
      rw [hX1] at HS1 HO1 HC1 H31
      have HX0 := Lib.hid hX0
      have HX1 := Lib.hid hX1
      clear hX0 hX1
      have p0 := cAt_seqn D 0
      have p1 := cAt_seqn D 1
      have m0 := (cAt_bd D 0).2.1.2
      have m1 := (cAt_bd D 1).2.1.2
      obtain ⟨a0, ha0⟩ : ∃ a, (cAt D 0).seqn = a := ⟨_, rfl⟩
      obtain ⟨a1, ha1⟩ : ∃ a, (cAt D 1).seqn = a := ⟨_, rfl⟩
      rw [ha0] at HC0 p0 m0
      rw [ha1] at HC1 p1 m1
      have HA0 := Lib.hid ha0
      have HA1 := Lib.hid ha1
      clear ha0 ha1
      go_wp2_with fail
      apply wp_cutA (R := fun v => Two w.heap.size (w.heap.size + 1) X0 X1 v ∧ Chg Non w v)
      · refine wp_region_any (by kernel_rfl) ?_
        change wpAny _ _ _ _ _ _ _ (World.drew _)
        refine g_two 0 2 (by kernel_rfl) ?_ ?_
        · refine g_pure (some 48) (.pointer (some ⟨w.heap.size + 1 + 1, 0, none⟩)) rfl (by kernel_rfl) (by kernel_rfl) (by go_simp) ?_
          simp only [Act.put, List.setIfInBounds_toArray, List.set_cons_zero, List.set_cons_succ]
          refine g_two 1 2 (by kernel_rfl) ?_ ?_
          · refine g_load (some 49) 34 (.tmp 48) (w.heap.size + 1 + 1) 0 X0 _ rfl (by kernel_rfl) (by kernel_rfl) (by kernel_rfl) (by kernel_rfl) H30.out Tryz.underlying34 rfl (by rw [HS0.out]; exact info_rec) ?_
            simp only [Act.put, List.setIfInBounds_toArray, List.set_cons_zero, List.set_cons_succ]
            refine g_two 2 4 (by kernel_rfl) ?_ ?_
            · refine g_pure (some 50) (.pointer (some ⟨w.heap.size + 1 + 1, 36, none⟩)) rfl (by kernel_rfl) (by kernel_rfl) (by go_simp) ?_
              simp only [Act.put, List.setIfInBounds_toArray, List.set_cons_zero, List.set_cons_succ]
              refine g_two 3 4 (by kernel_rfl) ?_ ?_
              · refine g_load (some 51) 34 (.tmp 50) (w.heap.size + 1 + 1) 36 X1 _ rfl (by kernel_rfl) (by kernel_rfl) (by kernel_rfl) (by kernel_rfl) H31.out Tryz.underlying34 rfl (by rw [HS1.out]; exact info_rec) ?_
                simp only [Act.put, List.setIfInBounds_toArray, List.set_cons_zero, List.set_cons_succ]
                refine g_one 4 (by kernel_rfl) ?_
                refine g_store 34 (.tmp 2) (.tmp 49) w.heap.size X0 rfl (by kernel_rfl) (by kernel_rfl) (by kernel_rfl) (by kernel_rfl) (by kernel_rfl) 34 ⟨_, HT0.out.1, by rw [HS0.out]; exact recZ_size⟩ (by rw [HS0.out]; exact info_rec) HO0.out ?_
                intro W1 hg1 hb1
                have hT1 := HT0.out.put1 hne hg1 hb1
                refine g_one 5 (by kernel_rfl) ?_
                refine g_store 34 (.tmp 3) (.tmp 51) (w.heap.size + 1) X1 rfl (by kernel_rfl) (by kernel_rfl) (by kernel_rfl) (by kernel_rfl) (by kernel_rfl) 34 ⟨_, hT1.2, by rw [HS1.out]; exact recZ_size⟩ (by rw [HS1.out]; exact info_rec) HO1.out ?_
                intro W2 hg2 hb2
                have hT2 := hT1.put2 hne hg2 hb2
                refine wpAny_done (by kernel_rfl) ?_ _
                exact ⟨rfl, rfl, hT2, (HGr.out.then_new hg1 (fun x e => by omega)).then_new hg2 (fun x e => by omega)⟩
              · refine g_store 34 (.tmp 2) (.tmp 49) w.heap.size X0 rfl (by kernel_rfl) (by kernel_rfl) (by kernel_rfl) (by kernel_rfl) (by kernel_rfl) 34 ⟨_, HT0.out.1, by rw [HS0.out]; exact recZ_size⟩ (by rw [HS0.out]; exact info_rec) HO0.out ?_
                intro W1 hg1 hb1
                have hT1 := HT0.out.put1 hne hg1 hb1
                refine g_one 3 (by kernel_rfl) ?_
                refine g_load (some 51) 34 (.tmp 50) (w.heap.size + 1 + 1) 36 X1 _ rfl (by kernel_rfl) (by kernel_rfl) (by kernel_rfl) (by kernel_rfl) (range_keep hg1 H31.out (by omega)) Tryz.underlying34 rfl (by rw [HS1.out]; exact info_rec) ?_
                simp only [Act.put, List.setIfInBounds_toArray, List.set_cons_zero, List.set_cons_succ]
                refine g_one 5 (by kernel_rfl) ?_
                refine g_store 34 (.tmp 3) (.tmp 51) (w.heap.size + 1) X1 rfl (by kernel_rfl) (by kernel_rfl) (by kernel_rfl) (by kernel_rfl) (by kernel_rfl) 34 ⟨_, hT1.2, by rw [HS1.out]; exact recZ_size⟩ (by rw [HS1.out]; exact info_rec) HO1.out ?_
                intro W2 hg2 hb2
                have hT2 := hT1.put2 hne hg2 hb2
                refine wpAny_done (by kernel_rfl) ?_ _
                exact ⟨rfl, rfl, hT2, (HGr.out.then_new hg1 (fun x e => by omega)).then_new hg2 (fun x e => by omega)⟩
            · refine g_store 34 (.tmp 2) (.tmp 49) w.heap.size X0 rfl (by kernel_rfl) (by kernel_rfl) (by kernel_rfl) (by kernel_rfl) (by kernel_rfl) 34 ⟨_, HT0.out.1, by rw [HS0.out]; exact recZ_size⟩ (by rw [HS0.out]; exact info_rec) HO0.out ?_
              intro W1 hg1 hb1
              have hT1 := HT0.out.put1 hne hg1 hb1
              refine g_one 2 (by kernel_rfl) ?_
              refine g_pure (some 50) (.pointer (some ⟨w.heap.size + 1 + 1, 36, none⟩)) rfl (by kernel_rfl) (by kernel_rfl) (by go_simp) ?_
              simp only [Act.put, List.setIfInBounds_toArray, List.set_cons_zero, List.set_cons_succ]
              refine g_one 3 (by kernel_rfl) ?_
              refine g_load (some 51) 34 (.tmp 50) (w.heap.size + 1 + 1) 36 X1 _ rfl (by kernel_rfl) (by kernel_rfl) (by kernel_rfl) (by kernel_rfl) (range_keep hg1 H31.out (by omega)) Tryz.underlying34 rfl (by rw [HS1.out]; exact info_rec) ?_
              simp only [Act.put, List.setIfInBounds_toArray, List.set_cons_zero, List.set_cons_succ]
              refine g_one 5 (by kernel_rfl) ?_
              refine g_store 34 (.tmp 3) (.tmp 51) (w.heap.size + 1) X1 rfl (by kernel_rfl) (by kernel_rfl) (by kernel_rfl) (by kernel_rfl) (by kernel_rfl) 34 ⟨_, hT1.2, by rw [HS1.out]; exact recZ_size⟩ (by rw [HS1.out]; exact info_rec) HO1.out ?_
              intro W2 hg2 hb2
              have hT2 := hT1.put2 hne hg2 hb2
              refine wpAny_done (by kernel_rfl) ?_ _
              exact ⟨rfl, rfl, hT2, (HGr.out.then_new hg1 (fun x e => by omega)).then_new hg2 (fun x e => by omega)⟩
          · refine g_pure (some 50) (.pointer (some ⟨w.heap.size + 1 + 1, 36, none⟩)) rfl (by kernel_rfl) (by kernel_rfl) (by go_simp) ?_
            simp only [Act.put, List.setIfInBounds_toArray, List.set_cons_zero, List.set_cons_succ]
            refine g_two 1 3 (by kernel_rfl) ?_ ?_
            · refine g_load (some 49) 34 (.tmp 48) (w.heap.size + 1 + 1) 0 X0 _ rfl (by kernel_rfl) (by kernel_rfl) (by kernel_rfl) (by kernel_rfl) H30.out Tryz.underlying34 rfl (by rw [HS0.out]; exact info_rec) ?_
              simp only [Act.put, List.setIfInBounds_toArray, List.set_cons_zero, List.set_cons_succ]
              refine g_two 3 4 (by kernel_rfl) ?_ ?_
              · refine g_load (some 51) 34 (.tmp 50) (w.heap.size + 1 + 1) 36 X1 _ rfl (by kernel_rfl) (by kernel_rfl) (by kernel_rfl) (by kernel_rfl) H31.out Tryz.underlying34 rfl (by rw [HS1.out]; exact info_rec) ?_
                simp only [Act.put, List.setIfInBounds_toArray, List.set_cons_zero, List.set_cons_succ]
                refine g_one 4 (by kernel_rfl) ?_
                refine g_store 34 (.tmp 2) (.tmp 49) w.heap.size X0 rfl (by kernel_rfl) (by kernel_rfl) (by kernel_rfl) (by kernel_rfl) (by kernel_rfl) 34 ⟨_, HT0.out.1, by rw [HS0.out]; exact recZ_size⟩ (by rw [HS0.out]; exact info_rec) HO0.out ?_
                intro W1 hg1 hb1
                have hT1 := HT0.out.put1 hne hg1 hb1
                refine g_one 5 (by kernel_rfl) ?_
                refine g_store 34 (.tmp 3) (.tmp 51) (w.heap.size + 1) X1 rfl (by kernel_rfl) (by kernel_rfl) (by kernel_rfl) (by kernel_rfl) (by kernel_rfl) 34 ⟨_, hT1.2, by rw [HS1.out]; exact recZ_size⟩ (by rw [HS1.out]; exact info_rec) HO1.out ?_
                intro W2 hg2 hb2
                have hT2 := hT1.put2 hne hg2 hb2
                refine wpAny_done (by kernel_rfl) ?_ _
                exact ⟨rfl, rfl, hT2, (HGr.out.then_new hg1 (fun x e => by omega)).then_new hg2 (fun x e => by omega)⟩
              · refine g_store 34 (.tmp 2) (.tmp 49) w.heap.size X0 rfl (by kernel_rfl) (by kernel_rfl) (by kernel_rfl) (by kernel_rfl) (by kernel_rfl) 34 ⟨_, HT0.out.1, by rw [HS0.out]; exact recZ_size⟩ (by rw [HS0.out]; exact info_rec) HO0.out ?_
                intro W1 hg1 hb1
                have hT1 := HT0.out.put1 hne hg1 hb1
                refine g_one 3 (by kernel_rfl) ?_
                refine g_load (some 51) 34 (.tmp 50) (w.heap.size + 1 + 1) 36 X1 _ rfl (by kernel_rfl) (by kernel_rfl) (by kernel_rfl) (by kernel_rfl) (range_keep hg1 H31.out (by omega)) Tryz.underlying34 rfl (by rw [HS1.out]; exact info_rec) ?_
                simp only [Act.put, List.setIfInBounds_toArray, List.set_cons_zero, List.set_cons_succ]
                refine g_one 5 (by kernel_rfl) ?_
                refine g_store 34 (.tmp 3) (.tmp 51) (w.heap.size + 1) X1 rfl (by kernel_rfl) (by kernel_rfl) (by kernel_rfl) (by kernel_rfl) (by kernel_rfl) 34 ⟨_, hT1.2, by rw [HS1.out]; exact recZ_size⟩ (by rw [HS1.out]; exact info_rec) HO1.out ?_
                intro W2 hg2 hb2
                have hT2 := hT1.put2 hne hg2 hb2
                refine wpAny_done (by kernel_rfl) ?_ _
                exact ⟨rfl, rfl, hT2, (HGr.out.then_new hg1 (fun x e => by omega)).then_new hg2 (fun x e => by omega)⟩
            · refine g_load (some 51) 34 (.tmp 50) (w.heap.size + 1 + 1) 36 X1 _ rfl (by kernel_rfl) (by kernel_rfl) (by kernel_rfl) (by kernel_rfl) H31.out Tryz.underlying34 rfl (by rw [HS1.out]; exact info_rec) ?_
              simp only [Act.put, List.setIfInBounds_toArray, List.set_cons_zero, List.set_cons_succ]
              refine g_one 1 (by kernel_rfl) ?_
              refine g_load (some 49) 34 (.tmp 48) (w.heap.size + 1 + 1) 0 X0 _ rfl (by kernel_rfl) (by kernel_rfl) (by kernel_rfl) (by kernel_rfl) H30.out Tryz.underlying34 rfl (by rw [HS0.out]; exact info_rec) ?_
              simp only [Act.put, List.setIfInBounds_toArray, List.set_cons_zero, List.set_cons_succ]
              refine g_one 4 (by kernel_rfl) ?_
              refine g_store 34 (.tmp 2) (.tmp 49) w.heap.size X0 rfl (by kernel_rfl) (by kernel_rfl) (by kernel_rfl) (by kernel_rfl) (by kernel_rfl) 34 ⟨_, HT0.out.1, by rw [HS0.out]; exact recZ_size⟩ (by rw [HS0.out]; exact info_rec) HO0.out ?_
              intro W1 hg1 hb1
              have hT1 := HT0.out.put1 hne hg1 hb1
              refine g_one 5 (by kernel_rfl) ?_
              refine g_store 34 (.tmp 3) (.tmp 51) (w.heap.size + 1) X1 rfl (by kernel_rfl) (by kernel_rfl) (by kernel_rfl) (by kernel_rfl) (by kernel_rfl) 34 ⟨_, hT1.2, by rw [HS1.out]; exact recZ_size⟩ (by rw [HS1.out]; exact info_rec) HO1.out ?_
              intro W2 hg2 hb2
              have hT2 := hT1.put2 hne hg2 hb2
              refine wpAny_done (by kernel_rfl) ?_ _
              exact ⟨rfl, rfl, hT2, (HGr.out.then_new hg1 (fun x e => by omega)).then_new hg2 (fun x e => by omega)⟩
        · refine g_pure (some 50) (.pointer (some ⟨w.heap.size + 1 + 1, 36, none⟩)) rfl (by kernel_rfl) (by kernel_rfl) (by go_simp) ?_
          simp only [Act.put, List.setIfInBounds_toArray, List.set_cons_zero, List.set_cons_succ]
          refine g_two 0 3 (by kernel_rfl) ?_ ?_
          · refine g_pure (some 48) (.pointer (some ⟨w.heap.size + 1 + 1, 0, none⟩)) rfl (by kernel_rfl) (by kernel_rfl) (by go_simp) ?_
            simp only [Act.put, List.setIfInBounds_toArray, List.set_cons_zero, List.set_cons_succ]
            refine g_two 1 3 (by kernel_rfl) ?_ ?_
            · refine g_load (some 49) 34 (.tmp 48) (w.heap.size + 1 + 1) 0 X0 _ rfl (by kernel_rfl) (by kernel_rfl) (by kernel_rfl) (by kernel_rfl) H30.out Tryz.underlying34 rfl (by rw [HS0.out]; exact info_rec) ?_
              simp only [Act.put, List.setIfInBounds_toArray, List.set_cons_zero, List.set_cons_succ]
              refine g_two 3 4 (by kernel_rfl) ?_ ?_
              · refine g_load (some 51) 34 (.tmp 50) (w.heap.size + 1 + 1) 36 X1 _ rfl (by kernel_rfl) (by kernel_rfl) (by kernel_rfl) (by kernel_rfl) H31.out Tryz.underlying34 rfl (by rw [HS1.out]; exact info_rec) ?_
                simp only [Act.put, List.setIfInBounds_toArray, List.set_cons_zero, List.set_cons_succ]
                refine g_one 4 (by kernel_rfl) ?_
                refine g_store 34 (.tmp 2) (.tmp 49) w.heap.size X0 rfl (by kernel_rfl) (by kernel_rfl) (by kernel_rfl) (by kernel_rfl) (by kernel_rfl) 34 ⟨_, HT0.out.1, by rw [HS0.out]; exact recZ_size⟩ (by rw [HS0.out]; exact info_rec) HO0.out ?_
                intro W1 hg1 hb1
                have hT1 := HT0.out.put1 hne hg1 hb1
                refine g_one 5 (by kernel_rfl) ?_
                refine g_store 34 (.tmp 3) (.tmp 51) (w.heap.size + 1) X1 rfl (by kernel_rfl) (by kernel_rfl) (by kernel_rfl) (by kernel_rfl) (by kernel_rfl) 34 ⟨_, hT1.2, by rw [HS1.out]; exact recZ_size⟩ (by rw [HS1.out]; exact info_rec) HO1.out ?_
                intro W2 hg2 hb2
                have hT2 := hT1.put2 hne hg2 hb2
                refine wpAny_done (by kernel_rfl) ?_ _
                exact ⟨rfl, rfl, hT2, (HGr.out.then_new hg1 (fun x e => by omega)).then_new hg2 (fun x e => by omega)⟩
              · refine g_store 34 (.tmp 2) (.tmp 49) w.heap.size X0 rfl (by kernel_rfl) (by kernel_rfl) (by kernel_rfl) (by kernel_rfl) (by kernel_rfl) 34 ⟨_, HT0.out.1, by rw [HS0.out]; exact recZ_size⟩ (by rw [HS0.out]; exact info_rec) HO0.out ?_
                intro W1 hg1 hb1
                have hT1 := HT0.out.put1 hne hg1 hb1
                refine g_one 3 (by kernel_rfl) ?_
                refine g_load (some 51) 34 (.tmp 50) (w.heap.size + 1 + 1) 36 X1 _ rfl (by kernel_rfl) (by kernel_rfl) (by kernel_rfl) (by kernel_rfl) (range_keep hg1 H31.out (by omega)) Tryz.underlying34 rfl (by rw [HS1.out]; exact info_rec) ?_
                simp only [Act.put, List.setIfInBounds_toArray, List.set_cons_zero, List.set_cons_succ]
                refine g_one 5 (by kernel_rfl) ?_
                refine g_store 34 (.tmp 3) (.tmp 51) (w.heap.size + 1) X1 rfl (by kernel_rfl) (by kernel_rfl) (by kernel_rfl) (by kernel_rfl) (by kernel_rfl) 34 ⟨_, hT1.2, by rw [HS1.out]; exact recZ_size⟩ (by rw [HS1.out]; exact info_rec) HO1.out ?_
                intro W2 hg2 hb2
                have hT2 := hT1.put2 hne hg2 hb2
                refine wpAny_done (by kernel_rfl) ?_ _
                exact ⟨rfl, rfl, hT2, (HGr.out.then_new hg1 (fun x e => by omega)).then_new hg2 (fun x e => by omega)⟩
            · refine g_load (some 51) 34 (.tmp 50) (w.heap.size + 1 + 1) 36 X1 _ rfl (by kernel_rfl) (by kernel_rfl) (by kernel_rfl) (by kernel_rfl) H31.out Tryz.underlying34 rfl (by rw [HS1.out]; exact info_rec) ?_
              simp only [Act.put, List.setIfInBounds_toArray, List.set_cons_zero, List.set_cons_succ]
              refine g_one 1 (by kernel_rfl) ?_
              refine g_load (some 49) 34 (.tmp 48) (w.heap.size + 1 + 1) 0 X0 _ rfl (by kernel_rfl) (by kernel_rfl) (by kernel_rfl) (by kernel_rfl) H30.out Tryz.underlying34 rfl (by rw [HS0.out]; exact info_rec) ?_
              simp only [Act.put, List.setIfInBounds_toArray, List.set_cons_zero, List.set_cons_succ]
              refine g_one 4 (by kernel_rfl) ?_
              refine g_store 34 (.tmp 2) (.tmp 49) w.heap.size X0 rfl (by kernel_rfl) (by kernel_rfl) (by kernel_rfl) (by kernel_rfl) (by kernel_rfl) 34 ⟨_, HT0.out.1, by rw [HS0.out]; exact recZ_size⟩ (by rw [HS0.out]; exact info_rec) HO0.out ?_
              intro W1 hg1 hb1
              have hT1 := HT0.out.put1 hne hg1 hb1
              refine g_one 5 (by kernel_rfl) ?_
              refine g_store 34 (.tmp 3) (.tmp 51) (w.heap.size + 1) X1 rfl (by kernel_rfl) (by kernel_rfl) (by kernel_rfl) (by kernel_rfl) (by kernel_rfl) 34 ⟨_, hT1.2, by rw [HS1.out]; exact recZ_size⟩ (by rw [HS1.out]; exact info_rec) HO1.out ?_
              intro W2 hg2 hb2
              have hT2 := hT1.put2 hne hg2 hb2
              refine wpAny_done (by kernel_rfl) ?_ _
              exact ⟨rfl, rfl, hT2, (HGr.out.then_new hg1 (fun x e => by omega)).then_new hg2 (fun x e => by omega)⟩
          · refine g_load (some 51) 34 (.tmp 50) (w.heap.size + 1 + 1) 36 X1 _ rfl (by kernel_rfl) (by kernel_rfl) (by kernel_rfl) (by kernel_rfl) H31.out Tryz.underlying34 rfl (by rw [HS1.out]; exact info_rec) ?_
            simp only [Act.put, List.setIfInBounds_toArray, List.set_cons_zero, List.set_cons_succ]
            refine g_one 0 (by kernel_rfl) ?_
            refine g_pure (some 48) (.pointer (some ⟨w.heap.size + 1 + 1, 0, none⟩)) rfl (by kernel_rfl) (by kernel_rfl) (by go_simp) ?_
            simp only [Act.put, List.setIfInBounds_toArray, List.set_cons_zero, List.set_cons_succ]
            refine g_one 1 (by kernel_rfl) ?_
            refine g_load (some 49) 34 (.tmp 48) (w.heap.size + 1 + 1) 0 X0 _ rfl (by kernel_rfl) (by kernel_rfl) (by kernel_rfl) (by kernel_rfl) H30.out Tryz.underlying34 rfl (by rw [HS0.out]; exact info_rec) ?_
            simp only [Act.put, List.setIfInBounds_toArray, List.set_cons_zero, List.set_cons_succ]
            refine g_one 4 (by kernel_rfl) ?_
            refine g_store 34 (.tmp 2) (.tmp 49) w.heap.size X0 rfl (by kernel_rfl) (by kernel_rfl) (by kernel_rfl) (by kernel_rfl) (by kernel_rfl) 34 ⟨_, HT0.out.1, by rw [HS0.out]; exact recZ_size⟩ (by rw [HS0.out]; exact info_rec) HO0.out ?_
            intro W1 hg1 hb1
            have hT1 := HT0.out.put1 hne hg1 hb1
            refine g_one 5 (by kernel_rfl) ?_
            refine g_store 34 (.tmp 3) (.tmp 51) (w.heap.size + 1) X1 rfl (by kernel_rfl) (by kernel_rfl) (by kernel_rfl) (by kernel_rfl) (by kernel_rfl) 34 ⟨_, hT1.2, by rw [HS1.out]; exact recZ_size⟩ (by rw [HS1.out]; exact info_rec) HO1.out ?_
            intro W2 hg2 hb2
            have hT2 := hT1.put2 hne hg2 hb2
            refine wpAny_done (by kernel_rfl) ?_ _
            exact ⟨rfl, rfl, hT2, (HGr.out.then_new hg1 (fun x e => by omega)).then_new hg2 (fun x e => by omega)⟩
      intro v ⟨hTv, hGv⟩
      have HTv := Lib.hid hTv
      have HGv := Lib.hid hGv
      have k2 : v.cell? ⟨w.heap.size, 0, none⟩ = some (.int .i64 a0) := by rw [cell_of_row _ _ _ _ _ _ hTv.1]; exact HC0.out
      have k3 : v.cell? ⟨w.heap.size + 1, 0, none⟩ = some (.int .i64 a1) := by rw [cell_of_row _ _ _ _ _ _ hTv.2]; exact HC1.out
      clear hTv hGv
      by_cases hlt : a0 < a1
      · have hd : decide (a0 < a1) = true := by simpa using hlt
        have HLT : Hid ((cAt D 0).seqn < (cAt D 1).seqn) := Lib.hid (by rw [HA0.out, HA1.out]; exact hlt)
        clear hlt
        obtain ⟨q, hq, hqr⟩ := eq_rec (cAt D 1) Rec.zero (cAt_bd D 1) zero_bd
        rw [HX1.out] at hqr
        have heq : ∀ u, (binOp .eql 34 (.agg X1) (.agg recZ)).run Tryz.prog u = .ok (.bool q) u := fun u => (hqr u).1
        have HQ := Lib.hid hq
        clear hq hqr
        cases q
        · skip
          have HNZ : Hid (¬ cAt D 1 = Rec.zero) := Lib.hid (fun e => Bool.false_ne_true (HQ.out.2 e))
          have hw1 : IntKind.i64.wrap (a1 - 1) = a1 - 1 := Go.IntWalk.i64_in _ (by omega)
          have hw2 : wrap64 (a1 - 1) = a1 - 1 := by unfold wrap64; omega
          by_cases hn : a0 = a1 - 1
          · skip
            have hb : (a0 != a1 - 1) = false := by rw [bne_eq_false_iff_eq]; exact hn
            have HN := Lib.hid hn
            clear hn
            go_wp2_with (first
              | (refine sel (some 57) (.load 34 (.tmp 3)) ?_; refine wpList_load_rec rfl (.tmp 3) rfl (w.heap.size + 1) 0 rfl X1 HTv.out.right HS1.out ?_)
              | (refine sel (some 58) (.load 34 (.tmp 2)) ?_; refine wpList_load_rec rfl (.tmp 2) rfl w.heap.size 0 rfl X0 HTv.out.left HS0.out ?_)
              | (refine sel none (.store 34 (.tmp 2) (.tmp 57)) ?_
                 refine wpList_store_rowA rfl 34 (.tmp 2) (.tmp 57) rfl w.heap.size X1 rfl rfl 34 _ HTv.out.1 (by rw [HS1.out]; exact info_rec) (by rw [HS0.out, HS1.out]) HO1.out ?_
                 intro u1 hgu1 hbu1
                 have HTu := Lib.hid (HTv.out.put1 hne hgu1 hbu1)
                 have HGu := Lib.hid (HGv.out.then_new hgu1 (fun x e => by omega))
                 clear hgu1 hbu1 k2 k3)
              | (refine sel none (.store 34 (.tmp 3) (.tmp 58)) ?_
                 refine wpList_store_rowA rfl 34 (.tmp 3) (.tmp 58) rfl (w.heap.size + 1) X0 rfl rfl 34 _ HTu.out.2 (by rw [HS0.out]; exact info_rec) (by rw [HS0.out, HS1.out]) HO0.out ?_
                 intro v hgu2 hbu2
                 have HTv := Lib.hid (HTu.out.put2 hne hgu2 hbu2)
                 have HGv := Lib.hid (HGu.out.then_new hgu2 (fun x e => by omega))
                 have k2 : v.cell? ⟨w.heap.size, 0, none⟩ = some (.int .i64 a1) := by rw [cell_of_row _ _ _ _ _ _ HTv.out.1]; exact HC1.out
                 have k3 : v.cell? ⟨w.heap.size + 1, 0, none⟩ = some (.int .i64 a0) := by rw [cell_of_row _ _ _ _ _ _ HTv.out.2]; exact HC0.out
                 clear hgu2 hbu2)
              | (refine sel (some 59) (.load 34 (.tmp 2)) ?_; refine wpList_load_rec rfl (.tmp 2) rfl w.heap.size 0 rfl X1 HTv.out.left HS1.out ?_)
              | (refine sel (some 60) (.build 34 #[]) ?_; refine wpList_pure rfl (some 60) (.agg recZ) rfl (by kernel_rfl) ?_))
            have hTd : Two w.heap.size (w.heap.size + 1) X1 X0 v.drew := HTv.out
            refine wp_region_any (by kernel_rfl) ?_
            change wpAny _ _ _ _ _ _ _ (World.drew _)
            refine g_two 0 1 (by kernel_rfl) ?_ ?_
            · refine g_load (some 71) 34 (.tmp 2) w.heap.size 0 X1 _ rfl (by kernel_rfl) (by kernel_rfl) (by kernel_rfl) (by kernel_rfl) hTd.left Tryz.underlying34 rfl (by rw [HS1.out]; exact info_rec) ?_
              simp only [Act.put, List.setIfInBounds_toArray, List.set_cons_zero, List.set_cons_succ]
              refine g_two 1 2 (by kernel_rfl) ?_ ?_
              · refine g_load (some 72) 34 (.tmp 3) (w.heap.size + 1) 0 X0 _ rfl (by kernel_rfl) (by kernel_rfl) (by kernel_rfl) (by kernel_rfl) hTd.right Tryz.underlying34 rfl (by rw [HS0.out]; exact info_rec) ?_
                simp only [Act.put, List.setIfInBounds_toArray, List.set_cons_zero, List.set_cons_succ]
                refine g_one 2 (by kernel_rfl) ?_
                refine g_store 34 (.tmp 2) (.tmp 71) w.heap.size X1 rfl (by kernel_rfl) (by kernel_rfl) (by kernel_rfl) (by kernel_rfl) (by kernel_rfl) 34 ⟨_, hTd.1, rfl⟩ (by rw [HS1.out]; exact info_rec) HO1.out ?_
                intro W1 hg1 hb1
                have hT1 := hTd.put1 hne hg1 hb1
                refine g_one 3 (by kernel_rfl) ?_
                refine g_store 34 (.tmp 3) (.tmp 72) (w.heap.size + 1) X0 rfl (by kernel_rfl) (by kernel_rfl) (by kernel_rfl) (by kernel_rfl) (by kernel_rfl) 34 ⟨_, hT1.2, rfl⟩ (by rw [HS0.out]; exact info_rec) HO0.out ?_
                intro W2 hg2 hb2
                have hT2 := hT1.put2 hne hg2 hb2
                refine g_one 4 (by kernel_rfl) ?_
                refine g_pure (some 4) (.int .i64 0) rfl (by kernel_rfl) (by kernel_rfl) (by go_simp) ?_
                simp only [Act.put, List.setIfInBounds_toArray, List.set_cons_zero, List.set_cons_succ]
                refine wpAny_done (by kernel_rfl) ?_ _
                go_wp2
                exact bodyPost_ret (run_results_cell2_tmp Tryz.results11 _ _ w.heap.size (w.heap.size + 1) 34 X1 X0 (0, 0) (0, 0) _ (.int .i64 0) (by kernel_rfl) (by kernel_rfl) (by kernel_rfl) hT2.1 hT2.2 Tryz.underlying34 rfl (by rw [HS1.out]; exact info_rec) (by rw [HS0.out]; exact info_rec)) (by kernel_rfl) ⟨cfin_s_eq HX0.out HX1.out HLT.out HNZ.out HA0.out HA1.out HN.out, ((HGv.out.drew).then_new hg1 (fun x e => by omega)).then_new hg2 (fun x e => by omega)⟩
              · refine g_store 34 (.tmp 2) (.tmp 71) w.heap.size X1 rfl (by kernel_rfl) (by kernel_rfl) (by kernel_rfl) (by kernel_rfl) (by kernel_rfl) 34 ⟨_, hTd.1, rfl⟩ (by rw [HS1.out]; exact info_rec) HO1.out ?_
                intro W1 hg1 hb1
                have hT1 := hTd.put1 hne hg1 hb1
                refine g_one 1 (by kernel_rfl) ?_
                refine g_load (some 72) 34 (.tmp 3) (w.heap.size + 1) 0 X0 _ rfl (by kernel_rfl) (by kernel_rfl) (by kernel_rfl) (by kernel_rfl) hT1.right Tryz.underlying34 rfl (by rw [HS0.out]; exact info_rec) ?_
                simp only [Act.put, List.setIfInBounds_toArray, List.set_cons_zero, List.set_cons_succ]
                refine g_one 3 (by kernel_rfl) ?_
                refine g_store 34 (.tmp 3) (.tmp 72) (w.heap.size + 1) X0 rfl (by kernel_rfl) (by kernel_rfl) (by kernel_rfl) (by kernel_rfl) (by kernel_rfl) 34 ⟨_, hT1.2, rfl⟩ (by rw [HS0.out]; exact info_rec) HO0.out ?_
                intro W2 hg2 hb2
                have hT2 := hT1.put2 hne hg2 hb2
                refine g_one 4 (by kernel_rfl) ?_
                refine g_pure (some 4) (.int .i64 0) rfl (by kernel_rfl) (by kernel_rfl) (by go_simp) ?_
                simp only [Act.put, List.setIfInBounds_toArray, List.set_cons_zero, List.set_cons_succ]
                refine wpAny_done (by kernel_rfl) ?_ _
                go_wp2
                exact bodyPost_ret (run_results_cell2_tmp Tryz.results11 _ _ w.heap.size (w.heap.size + 1) 34 X1 X0 (0, 0) (0, 0) _ (.int .i64 0) (by kernel_rfl) (by kernel_rfl) (by kernel_rfl) hT2.1 hT2.2 Tryz.underlying34 rfl (by rw [HS1.out]; exact info_rec) (by rw [HS0.out]; exact info_rec)) (by kernel_rfl) ⟨cfin_s_eq HX0.out HX1.out HLT.out HNZ.out HA0.out HA1.out HN.out, ((HGv.out.drew).then_new hg1 (fun x e => by omega)).then_new hg2 (fun x e => by omega)⟩
            · refine g_load (some 72) 34 (.tmp 3) (w.heap.size + 1) 0 X0 _ rfl (by kernel_rfl) (by kernel_rfl) (by kernel_rfl) (by kernel_rfl) hTd.right Tryz.underlying34 rfl (by rw [HS0.out]; exact info_rec) ?_
              simp only [Act.put, List.setIfInBounds_toArray, List.set_cons_zero, List.set_cons_succ]
              refine g_one 0 (by kernel_rfl) ?_
              refine g_load (some 71) 34 (.tmp 2) w.heap.size 0 X1 _ rfl (by kernel_rfl) (by kernel_rfl) (by kernel_rfl) (by kernel_rfl) hTd.left Tryz.underlying34 rfl (by rw [HS1.out]; exact info_rec) ?_
              simp only [Act.put, List.setIfInBounds_toArray, List.set_cons_zero, List.set_cons_succ]
              refine g_one 2 (by kernel_rfl) ?_
              refine g_store 34 (.tmp 2) (.tmp 71) w.heap.size X1 rfl (by kernel_rfl) (by kernel_rfl) (by kernel_rfl) (by kernel_rfl) (by kernel_rfl) 34 ⟨_, hTd.1, rfl⟩ (by rw [HS1.out]; exact info_rec) HO1.out ?_
              intro W1 hg1 hb1
              have hT1 := hTd.put1 hne hg1 hb1
              refine g_one 3 (by kernel_rfl) ?_
              refine g_store 34 (.tmp 3) (.tmp 72) (w.heap.size + 1) X0 rfl (by kernel_rfl) (by kernel_rfl) (by kernel_rfl) (by kernel_rfl) (by kernel_rfl) 34 ⟨_, hT1.2, rfl⟩ (by rw [HS0.out]; exact info_rec) HO0.out ?_
              intro W2 hg2 hb2
              have hT2 := hT1.put2 hne hg2 hb2
              refine g_one 4 (by kernel_rfl) ?_
              refine g_pure (some 4) (.int .i64 0) rfl (by kernel_rfl) (by kernel_rfl) (by go_simp) ?_
              simp only [Act.put, List.setIfInBounds_toArray, List.set_cons_zero, List.set_cons_succ]
              refine wpAny_done (by kernel_rfl) ?_ _
              go_wp2
              exact bodyPost_ret (run_results_cell2_tmp Tryz.results11 _ _ w.heap.size (w.heap.size + 1) 34 X1 X0 (0, 0) (0, 0) _ (.int .i64 0) (by kernel_rfl) (by kernel_rfl) (by kernel_rfl) hT2.1 hT2.2 Tryz.underlying34 rfl (by rw [HS1.out]; exact info_rec) (by rw [HS0.out]; exact info_rec)) (by kernel_rfl) ⟨cfin_s_eq HX0.out HX1.out HLT.out HNZ.out HA0.out HA1.out HN.out, ((HGv.out.drew).then_new hg1 (fun x e => by omega)).then_new hg2 (fun x e => by omega)⟩
          · skip
            have hb : (a0 != a1 - 1) = true := by rw [bne_iff_ne]; exact hn
            have HN := Lib.hid hn
            clear hn
            go_wp2_with (first
              | (refine sel (some 57) (.load 34 (.tmp 3)) ?_; refine wpList_load_rec rfl (.tmp 3) rfl (w.heap.size + 1) 0 rfl X1 HTv.out.right HS1.out ?_)
              | (refine sel (some 58) (.load 34 (.tmp 2)) ?_; refine wpList_load_rec rfl (.tmp 2) rfl w.heap.size 0 rfl X0 HTv.out.left HS0.out ?_)
              | (refine sel none (.store 34 (.tmp 2) (.tmp 57)) ?_
                 refine wpList_store_rowA rfl 34 (.tmp 2) (.tmp 57) rfl w.heap.size X1 rfl rfl 34 _ HTv.out.1 (by rw [HS1.out]; exact info_rec) (by rw [HS0.out, HS1.out]) HO1.out ?_
                 intro u1 hgu1 hbu1
                 have HTu := Lib.hid (HTv.out.put1 hne hgu1 hbu1)
                 have HGu := Lib.hid (HGv.out.then_new hgu1 (fun x e => by omega))
                 clear hgu1 hbu1 k2 k3)
              | (refine sel none (.store 34 (.tmp 3) (.tmp 58)) ?_
                 refine wpList_store_rowA rfl 34 (.tmp 3) (.tmp 58) rfl (w.heap.size + 1) X0 rfl rfl 34 _ HTu.out.2 (by rw [HS0.out]; exact info_rec) (by rw [HS0.out, HS1.out]) HO0.out ?_
                 intro v hgu2 hbu2
                 have HTv := Lib.hid (HTu.out.put2 hne hgu2 hbu2)
                 have HGv := Lib.hid (HGu.out.then_new hgu2 (fun x e => by omega))
                 have k2 : v.cell? ⟨w.heap.size, 0, none⟩ = some (.int .i64 a1) := by rw [cell_of_row _ _ _ _ _ _ HTv.out.1]; exact HC1.out
                 have k3 : v.cell? ⟨w.heap.size + 1, 0, none⟩ = some (.int .i64 a0) := by rw [cell_of_row _ _ _ _ _ _ HTv.out.2]; exact HC0.out
                 clear hgu2 hbu2)
              | (refine sel (some 59) (.load 34 (.tmp 2)) ?_; refine wpList_load_rec rfl (.tmp 2) rfl w.heap.size 0 rfl X1 HTv.out.left HS1.out ?_)
              | (refine sel (some 60) (.build 34 #[]) ?_; refine wpList_pure rfl (some 60) (.agg recZ) rfl (by kernel_rfl) ?_)
              | (refine sel (some 70) (.build 34 #[]) ?_; refine wpList_pure rfl (some 70) (.agg recZ) rfl (by kernel_rfl) ?_)
              | (refine sel none (.store 34 (.tmp 3) (.tmp 70)) ?_
                 refine wpList_store_rowA rfl 34 (.tmp 3) (.tmp 70) rfl (w.heap.size + 1) recZ rfl rfl 34 _ HTv.out.2 (by rw [recZ_size]; exact info_rec) (by rw [HS0.out, recZ_size]) recZ_one ?_
                 intro v2 hgv2 hbv2
                 have HT2 := Lib.hid (HTv.out.put2 hne hgv2 hbv2)
                 have HGv := Lib.hid (HGv.out.then_new hgv2 (fun x e => by omega))
                 clear hgv2 hbv2 k2 k3))
            have hTd : Two w.heap.size (w.heap.size + 1) X1 recZ v2.drew := HT2.out
            refine wp_region_any (by kernel_rfl) ?_
            change wpAny _ _ _ _ _ _ _ (World.drew _)
            refine g_two 0 1 (by kernel_rfl) ?_ ?_
            · refine g_load (some 71) 34 (.tmp 2) w.heap.size 0 X1 _ rfl (by kernel_rfl) (by kernel_rfl) (by kernel_rfl) (by kernel_rfl) hTd.left Tryz.underlying34 rfl (by rw [HS1.out]; exact info_rec) ?_
              simp only [Act.put, List.setIfInBounds_toArray, List.set_cons_zero, List.set_cons_succ]
              refine g_two 1 2 (by kernel_rfl) ?_ ?_
              · refine g_load (some 72) 34 (.tmp 3) (w.heap.size + 1) 0 recZ _ rfl (by kernel_rfl) (by kernel_rfl) (by kernel_rfl) (by kernel_rfl) hTd.right Tryz.underlying34 rfl (by rw [recZ_size]; exact info_rec) ?_
                simp only [Act.put, List.setIfInBounds_toArray, List.set_cons_zero, List.set_cons_succ]
                refine g_one 2 (by kernel_rfl) ?_
                refine g_store 34 (.tmp 2) (.tmp 71) w.heap.size X1 rfl (by kernel_rfl) (by kernel_rfl) (by kernel_rfl) (by kernel_rfl) (by kernel_rfl) 34 ⟨_, hTd.1, rfl⟩ (by rw [HS1.out]; exact info_rec) HO1.out ?_
                intro W1 hg1 hb1
                have hT1 := hTd.put1 hne hg1 hb1
                refine g_one 3 (by kernel_rfl) ?_
                refine g_store 34 (.tmp 3) (.tmp 72) (w.heap.size + 1) recZ rfl (by kernel_rfl) (by kernel_rfl) (by kernel_rfl) (by kernel_rfl) (by kernel_rfl) 34 ⟨_, hT1.2, rfl⟩ (by rw [recZ_size]; exact info_rec) recZ_one ?_
                intro W2 hg2 hb2
                have hT2 := hT1.put2 hne hg2 hb2
                refine g_one 4 (by kernel_rfl) ?_
                refine g_pure (some 4) (.int .i64 0) rfl (by kernel_rfl) (by kernel_rfl) (by go_simp) ?_
                simp only [Act.put, List.setIfInBounds_toArray, List.set_cons_zero, List.set_cons_succ]
                refine wpAny_done (by kernel_rfl) ?_ _
                go_wp2
                exact bodyPost_ret (run_results_cell2_tmp Tryz.results11 _ _ w.heap.size (w.heap.size + 1) 34 X1 recZ (0, 0) (0, 0) _ (.int .i64 0) (by kernel_rfl) (by kernel_rfl) (by kernel_rfl) hT2.1 hT2.2 Tryz.underlying34 rfl (by rw [HS1.out]; exact info_rec) (by rw [recZ_size]; exact info_rec)) (by kernel_rfl) ⟨cfin_s_ne HX0.out HX1.out HLT.out HNZ.out HA0.out HA1.out HN.out, ((HGv.out.drew).then_new hg1 (fun x e => by omega)).then_new hg2 (fun x e => by omega)⟩
              · refine g_store 34 (.tmp 2) (.tmp 71) w.heap.size X1 rfl (by kernel_rfl) (by kernel_rfl) (by kernel_rfl) (by kernel_rfl) (by kernel_rfl) 34 ⟨_, hTd.1, rfl⟩ (by rw [HS1.out]; exact info_rec) HO1.out ?_
                intro W1 hg1 hb1
                have hT1 := hTd.put1 hne hg1 hb1
                refine g_one 1 (by kernel_rfl) ?_
                refine g_load (some 72) 34 (.tmp 3) (w.heap.size + 1) 0 recZ _ rfl (by kernel_rfl) (by kernel_rfl) (by kernel_rfl) (by kernel_rfl) hT1.right Tryz.underlying34 rfl (by rw [recZ_size]; exact info_rec) ?_
                simp only [Act.put, List.setIfInBounds_toArray, List.set_cons_zero, List.set_cons_succ]
                refine g_one 3 (by kernel_rfl) ?_
                refine g_store 34 (.tmp 3) (.tmp 72) (w.heap.size + 1) recZ rfl (by kernel_rfl) (by kernel_rfl) (by kernel_rfl) (by kernel_rfl) (by kernel_rfl) 34 ⟨_, hT1.2, rfl⟩ (by rw [recZ_size]; exact info_rec) recZ_one ?_
                intro W2 hg2 hb2
                have hT2 := hT1.put2 hne hg2 hb2
                refine g_one 4 (by kernel_rfl) ?_
                refine g_pure (some 4) (.int .i64 0) rfl (by kernel_rfl) (by kernel_rfl) (by go_simp) ?_
                simp only [Act.put, List.setIfInBounds_toArray, List.set_cons_zero, List.set_cons_succ]
                refine wpAny_done (by kernel_rfl) ?_ _
                go_wp2
                exact bodyPost_ret (run_results_cell2_tmp Tryz.results11 _ _ w.heap.size (w.heap.size + 1) 34 X1 recZ (0, 0) (0, 0) _ (.int .i64 0) (by kernel_rfl) (by kernel_rfl) (by kernel_rfl) hT2.1 hT2.2 Tryz.underlying34 rfl (by rw [HS1.out]; exact info_rec) (by rw [recZ_size]; exact info_rec)) (by kernel_rfl) ⟨cfin_s_ne HX0.out HX1.out HLT.out HNZ.out HA0.out HA1.out HN.out, ((HGv.out.drew).then_new hg1 (fun x e => by omega)).then_new hg2 (fun x e => by omega)⟩
            · refine g_load (some 72) 34 (.tmp 3) (w.heap.size + 1) 0 recZ _ rfl (by kernel_rfl) (by kernel_rfl) (by kernel_rfl) (by kernel_rfl) hTd.right Tryz.underlying34 rfl (by rw [recZ_size]; exact info_rec) ?_
              simp only [Act.put, List.setIfInBounds_toArray, List.set_cons_zero, List.set_cons_succ]
              refine g_one 0 (by kernel_rfl) ?_
              refine g_load (some 71) 34 (.tmp 2) w.heap.size 0 X1 _ rfl (by kernel_rfl) (by kernel_rfl) (by kernel_rfl) (by kernel_rfl) hTd.left Tryz.underlying34 rfl (by rw [HS1.out]; exact info_rec) ?_
              simp only [Act.put, List.setIfInBounds_toArray, List.set_cons_zero, List.set_cons_succ]
              refine g_one 2 (by kernel_rfl) ?_
              refine g_store 34 (.tmp 2) (.tmp 71) w.heap.size X1 rfl (by kernel_rfl) (by kernel_rfl) (by kernel_rfl) (by kernel_rfl) (by kernel_rfl) 34 ⟨_, hTd.1, rfl⟩ (by rw [HS1.out]; exact info_rec) HO1.out ?_
              intro W1 hg1 hb1
              have hT1 := hTd.put1 hne hg1 hb1
              refine g_one 3 (by kernel_rfl) ?_
              refine g_store 34 (.tmp 3) (.tmp 72) (w.heap.size + 1) recZ rfl (by kernel_rfl) (by kernel_rfl) (by kernel_rfl) (by kernel_rfl) (by kernel_rfl) 34 ⟨_, hT1.2, rfl⟩ (by rw [recZ_size]; exact info_rec) recZ_one ?_
              intro W2 hg2 hb2
              have hT2 := hT1.put2 hne hg2 hb2
              refine g_one 4 (by kernel_rfl) ?_
              refine g_pure (some 4) (.int .i64 0) rfl (by kernel_rfl) (by kernel_rfl) (by go_simp) ?_
              simp only [Act.put, List.setIfInBounds_toArray, List.set_cons_zero, List.set_cons_succ]
              refine wpAny_done (by kernel_rfl) ?_ _
              go_wp2
              exact bodyPost_ret (run_results_cell2_tmp Tryz.results11 _ _ w.heap.size (w.heap.size + 1) 34 X1 recZ (0, 0) (0, 0) _ (.int .i64 0) (by kernel_rfl) (by kernel_rfl) (by kernel_rfl) hT2.1 hT2.2 Tryz.underlying34 rfl (by rw [HS1.out]; exact info_rec) (by rw [recZ_size]; exact info_rec)) (by kernel_rfl) ⟨cfin_s_ne HX0.out HX1.out HLT.out HNZ.out HA0.out HA1.out HN.out, ((HGv.out.drew).then_new hg1 (fun x e => by omega)).then_new hg2 (fun x e => by omega)⟩
        · skip
          have HZ := Lib.hid (HQ.out.1 rfl)
          go_wp2_with (first
            | (refine sel (some 57) (.load 34 (.tmp 3)) ?_; refine wpList_load_rec rfl (.tmp 3) rfl (w.heap.size + 1) 0 rfl X1 HTv.out.right HS1.out ?_)
            | (refine sel (some 58) (.load 34 (.tmp 2)) ?_; refine wpList_load_rec rfl (.tmp 2) rfl w.heap.size 0 rfl X0 HTv.out.left HS0.out ?_)
            | (refine sel none (.store 34 (.tmp 2) (.tmp 57)) ?_
               refine wpList_store_rowA rfl 34 (.tmp 2) (.tmp 57) rfl w.heap.size X1 rfl rfl 34 _ HTv.out.1 (by rw [HS1.out]; exact info_rec) (by rw [HS0.out, HS1.out]) HO1.out ?_
               intro u1 hgu1 hbu1
               have HTu := Lib.hid (HTv.out.put1 hne hgu1 hbu1)
               have HGu := Lib.hid (HGv.out.then_new hgu1 (fun x e => by omega))
               clear hgu1 hbu1 k2 k3)
            | (refine sel none (.store 34 (.tmp 3) (.tmp 58)) ?_
               refine wpList_store_rowA rfl 34 (.tmp 3) (.tmp 58) rfl (w.heap.size + 1) X0 rfl rfl 34 _ HTu.out.2 (by rw [HS0.out]; exact info_rec) (by rw [HS0.out, HS1.out]) HO0.out ?_
               intro v hgu2 hbu2
               have HTv := Lib.hid (HTu.out.put2 hne hgu2 hbu2)
               have HGv := Lib.hid (HGu.out.then_new hgu2 (fun x e => by omega))
               have k2 : v.cell? ⟨w.heap.size, 0, none⟩ = some (.int .i64 a1) := by rw [cell_of_row _ _ _ _ _ _ HTv.out.1]; exact HC1.out
               have k3 : v.cell? ⟨w.heap.size + 1, 0, none⟩ = some (.int .i64 a0) := by rw [cell_of_row _ _ _ _ _ _ HTv.out.2]; exact HC0.out
               clear hgu2 hbu2)
            | (refine sel (some 59) (.load 34 (.tmp 2)) ?_; refine wpList_load_rec rfl (.tmp 2) rfl w.heap.size 0 rfl X1 HTv.out.left HS1.out ?_)
            | (refine sel (some 60) (.build 34 #[]) ?_; refine wpList_pure rfl (some 60) (.agg recZ) rfl (by kernel_rfl) ?_))
          have hTd : Two w.heap.size (w.heap.size + 1) X1 X0 v.drew := HTv.out
          refine wp_region_any (by kernel_rfl) ?_
          change wpAny _ _ _ _ _ _ _ (World.drew _)
          refine g_two 0 1 (by kernel_rfl) ?_ ?_
          · refine g_load (some 62) 34 (.tmp 2) w.heap.size 0 X1 _ rfl (by kernel_rfl) (by kernel_rfl) (by kernel_rfl) (by kernel_rfl) hTd.left Tryz.underlying34 rfl (by rw [HS1.out]; exact info_rec) ?_
            simp only [Act.put, List.setIfInBounds_toArray, List.set_cons_zero, List.set_cons_succ]
            refine g_two 1 2 (by kernel_rfl) ?_ ?_
            · refine g_load (some 63) 34 (.tmp 3) (w.heap.size + 1) 0 X0 _ rfl (by kernel_rfl) (by kernel_rfl) (by kernel_rfl) (by kernel_rfl) hTd.right Tryz.underlying34 rfl (by rw [HS0.out]; exact info_rec) ?_
              simp only [Act.put, List.setIfInBounds_toArray, List.set_cons_zero, List.set_cons_succ]
              refine g_one 2 (by kernel_rfl) ?_
              refine g_store 34 (.tmp 2) (.tmp 62) w.heap.size X1 rfl (by kernel_rfl) (by kernel_rfl) (by kernel_rfl) (by kernel_rfl) (by kernel_rfl) 34 ⟨_, hTd.1, rfl⟩ (by rw [HS1.out]; exact info_rec) HO1.out ?_
              intro W1 hg1 hb1
              have hT1 := hTd.put1 hne hg1 hb1
              refine g_one 3 (by kernel_rfl) ?_
              refine g_store 34 (.tmp 3) (.tmp 63) (w.heap.size + 1) X0 rfl (by kernel_rfl) (by kernel_rfl) (by kernel_rfl) (by kernel_rfl) (by kernel_rfl) 34 ⟨_, hT1.2, rfl⟩ (by rw [HS0.out]; exact info_rec) HO0.out ?_
              intro W2 hg2 hb2
              have hT2 := hT1.put2 hne hg2 hb2
              refine g_one 4 (by kernel_rfl) ?_
              refine g_pure (some 4) (.int .i64 160) rfl (by kernel_rfl) (by kernel_rfl) (by go_simp) ?_
              simp only [Act.put, List.setIfInBounds_toArray, List.set_cons_zero, List.set_cons_succ]
              refine wpAny_done (by kernel_rfl) ?_ _
              go_wp2
              exact bodyPost_ret (run_results_cell2_tmp Tryz.results11 _ _ w.heap.size (w.heap.size + 1) 34 X1 X0 (0, 0) (0, 0) _ (.int .i64 160) (by kernel_rfl) (by kernel_rfl) (by kernel_rfl) hT2.1 hT2.2 Tryz.underlying34 rfl (by rw [HS1.out]; exact info_rec) (by rw [HS0.out]; exact info_rec)) (by kernel_rfl) ⟨cfin_s_z HX0.out HX1.out HLT.out HZ.out, ((HGv.out.drew).then_new hg1 (fun x e => by omega)).then_new hg2 (fun x e => by omega)⟩
            · refine g_store 34 (.tmp 2) (.tmp 62) w.heap.size X1 rfl (by kernel_rfl) (by kernel_rfl) (by kernel_rfl) (by kernel_rfl) (by kernel_rfl) 34 ⟨_, hTd.1, rfl⟩ (by rw [HS1.out]; exact info_rec) HO1.out ?_
              intro W1 hg1 hb1
              have hT1 := hTd.put1 hne hg1 hb1
              refine g_one 1 (by kernel_rfl) ?_
              refine g_load (some 63) 34 (.tmp 3) (w.heap.size + 1) 0 X0 _ rfl (by kernel_rfl) (by kernel_rfl) (by kernel_rfl) (by kernel_rfl) hT1.right Tryz.underlying34 rfl (by rw [HS0.out]; exact info_rec) ?_
              simp only [Act.put, List.setIfInBounds_toArray, List.set_cons_zero, List.set_cons_succ]
              refine g_one 3 (by kernel_rfl) ?_
              refine g_store 34 (.tmp 3) (.tmp 63) (w.heap.size + 1) X0 rfl (by kernel_rfl) (by kernel_rfl) (by kernel_rfl) (by kernel_rfl) (by kernel_rfl) 34 ⟨_, hT1.2, rfl⟩ (by rw [HS0.out]; exact info_rec) HO0.out ?_
              intro W2 hg2 hb2
              have hT2 := hT1.put2 hne hg2 hb2
              refine g_one 4 (by kernel_rfl) ?_
              refine g_pure (some 4) (.int .i64 160) rfl (by kernel_rfl) (by kernel_rfl) (by go_simp) ?_
              simp only [Act.put, List.setIfInBounds_toArray, List.set_cons_zero, List.set_cons_succ]
              refine wpAny_done (by kernel_rfl) ?_ _
              go_wp2
              exact bodyPost_ret (run_results_cell2_tmp Tryz.results11 _ _ w.heap.size (w.heap.size + 1) 34 X1 X0 (0, 0) (0, 0) _ (.int .i64 160) (by kernel_rfl) (by kernel_rfl) (by kernel_rfl) hT2.1 hT2.2 Tryz.underlying34 rfl (by rw [HS1.out]; exact info_rec) (by rw [HS0.out]; exact info_rec)) (by kernel_rfl) ⟨cfin_s_z HX0.out HX1.out HLT.out HZ.out, ((HGv.out.drew).then_new hg1 (fun x e => by omega)).then_new hg2 (fun x e => by omega)⟩
          · refine g_load (some 63) 34 (.tmp 3) (w.heap.size + 1) 0 X0 _ rfl (by kernel_rfl) (by kernel_rfl) (by kernel_rfl) (by kernel_rfl) hTd.right Tryz.underlying34 rfl (by rw [HS0.out]; exact info_rec) ?_
            simp only [Act.put, List.setIfInBounds_toArray, List.set_cons_zero, List.set_cons_succ]
            refine g_one 0 (by kernel_rfl) ?_
            refine g_load (some 62) 34 (.tmp 2) w.heap.size 0 X1 _ rfl (by kernel_rfl) (by kernel_rfl) (by kernel_rfl) (by kernel_rfl) hTd.left Tryz.underlying34 rfl (by rw [HS1.out]; exact info_rec) ?_
            simp only [Act.put, List.setIfInBounds_toArray, List.set_cons_zero, List.set_cons_succ]
            refine g_one 2 (by kernel_rfl) ?_
            refine g_store 34 (.tmp 2) (.tmp 62) w.heap.size X1 rfl (by kernel_rfl) (by kernel_rfl) (by kernel_rfl) (by kernel_rfl) (by kernel_rfl) 34 ⟨_, hTd.1, rfl⟩ (by rw [HS1.out]; exact info_rec) HO1.out ?_
            intro W1 hg1 hb1
            have hT1 := hTd.put1 hne hg1 hb1
            refine g_one 3 (by kernel_rfl) ?_
            refine g_store 34 (.tmp 3) (.tmp 63) (w.heap.size + 1) X0 rfl (by kernel_rfl) (by kernel_rfl) (by kernel_rfl) (by kernel_rfl) (by kernel_rfl) 34 ⟨_, hT1.2, rfl⟩ (by rw [HS0.out]; exact info_rec) HO0.out ?_
            intro W2 hg2 hb2
            have hT2 := hT1.put2 hne hg2 hb2
            refine g_one 4 (by kernel_rfl) ?_
            refine g_pure (some 4) (.int .i64 160) rfl (by kernel_rfl) (by kernel_rfl) (by go_simp) ?_
            simp only [Act.put, List.setIfInBounds_toArray, List.set_cons_zero, List.set_cons_succ]
            refine wpAny_done (by kernel_rfl) ?_ _
            go_wp2
            exact bodyPost_ret (run_results_cell2_tmp Tryz.results11 _ _ w.heap.size (w.heap.size + 1) 34 X1 X0 (0, 0) (0, 0) _ (.int .i64 160) (by kernel_rfl) (by kernel_rfl) (by kernel_rfl) hT2.1 hT2.2 Tryz.underlying34 rfl (by rw [HS1.out]; exact info_rec) (by rw [HS0.out]; exact info_rec)) (by kernel_rfl) ⟨cfin_s_z HX0.out HX1.out HLT.out HZ.out, ((HGv.out.drew).then_new hg1 (fun x e => by omega)).then_new hg2 (fun x e => by omega)⟩
      · have hd : decide (a0 < a1) = false := by simpa using hlt
        have HLT : Hid ((cAt D 1).seqn ≤ (cAt D 0).seqn) := Lib.hid (by rw [HA0.out, HA1.out]; omega)
        clear hlt
        obtain ⟨q, hq, hqr⟩ := eq_rec (cAt D 0) Rec.zero (cAt_bd D 0) zero_bd
        rw [HX0.out] at hqr
        have heq : ∀ u, (binOp .eql 34 (.agg X0) (.agg recZ)).run Tryz.prog u = .ok (.bool q) u := fun u => (hqr u).1
        have HQ := Lib.hid hq
        clear hq hqr
        cases q
        · skip
          have HNZ : Hid (¬ cAt D 0 = Rec.zero) := Lib.hid (fun e => Bool.false_ne_true (HQ.out.2 e))
          have hw1 : IntKind.i64.wrap (a0 - 1) = a0 - 1 := Go.IntWalk.i64_in _ (by omega)
          have hw2 : wrap64 (a0 - 1) = a0 - 1 := by unfold wrap64; omega
          by_cases hn : a1 = a0 - 1
          · skip
            have hb : (a1 != a0 - 1) = false := by rw [bne_eq_false_iff_eq]; exact hn
            have HN := Lib.hid hn
            clear hn
            go_wp2_with (first
              | (refine sel (some 59) (.load 34 (.tmp 2)) ?_; refine wpList_load_rec rfl (.tmp 2) rfl w.heap.size 0 rfl X0 HTv.out.left HS0.out ?_)
              | (refine sel (some 60) (.build 34 #[]) ?_; refine wpList_pure rfl (some 60) (.agg recZ) rfl (by kernel_rfl) ?_))
            have hTd : Two w.heap.size (w.heap.size + 1) X0 X1 v.drew := HTv.out
            refine wp_region_any (by kernel_rfl) ?_
            change wpAny _ _ _ _ _ _ _ (World.drew _)
            refine g_two 0 1 (by kernel_rfl) ?_ ?_
            · refine g_load (some 71) 34 (.tmp 2) w.heap.size 0 X0 _ rfl (by kernel_rfl) (by kernel_rfl) (by kernel_rfl) (by kernel_rfl) hTd.left Tryz.underlying34 rfl (by rw [HS0.out]; exact info_rec) ?_
              simp only [Act.put, List.setIfInBounds_toArray, List.set_cons_zero, List.set_cons_succ]
              refine g_two 1 2 (by kernel_rfl) ?_ ?_
              · refine g_load (some 72) 34 (.tmp 3) (w.heap.size + 1) 0 X1 _ rfl (by kernel_rfl) (by kernel_rfl) (by kernel_rfl) (by kernel_rfl) hTd.right Tryz.underlying34 rfl (by rw [HS1.out]; exact info_rec) ?_
                simp only [Act.put, List.setIfInBounds_toArray, List.set_cons_zero, List.set_cons_succ]
                refine g_one 2 (by kernel_rfl) ?_
                refine g_store 34 (.tmp 2) (.tmp 71) w.heap.size X0 rfl (by kernel_rfl) (by kernel_rfl) (by kernel_rfl) (by kernel_rfl) (by kernel_rfl) 34 ⟨_, hTd.1, rfl⟩ (by rw [HS0.out]; exact info_rec) HO0.out ?_
                intro W1 hg1 hb1
                have hT1 := hTd.put1 hne hg1 hb1
                refine g_one 3 (by kernel_rfl) ?_
                refine g_store 34 (.tmp 3) (.tmp 72) (w.heap.size + 1) X1 rfl (by kernel_rfl) (by kernel_rfl) (by kernel_rfl) (by kernel_rfl) (by kernel_rfl) 34 ⟨_, hT1.2, rfl⟩ (by rw [HS1.out]; exact info_rec) HO1.out ?_
                intro W2 hg2 hb2
                have hT2 := hT1.put2 hne hg2 hb2
                refine g_one 4 (by kernel_rfl) ?_
                refine g_pure (some 4) (.int .i64 0) rfl (by kernel_rfl) (by kernel_rfl) (by go_simp) ?_
                simp only [Act.put, List.setIfInBounds_toArray, List.set_cons_zero, List.set_cons_succ]
                refine wpAny_done (by kernel_rfl) ?_ _
                go_wp2
                exact bodyPost_ret (run_results_cell2_tmp Tryz.results11 _ _ w.heap.size (w.heap.size + 1) 34 X0 X1 (0, 0) (0, 0) _ (.int .i64 0) (by kernel_rfl) (by kernel_rfl) (by kernel_rfl) hT2.1 hT2.2 Tryz.underlying34 rfl (by rw [HS0.out]; exact info_rec) (by rw [HS1.out]; exact info_rec)) (by kernel_rfl) ⟨cfin_n_eq HX0.out HX1.out (Int.not_lt.2 HLT.out) HNZ.out HA1.out HA0.out HN.out, ((HGv.out.drew).then_new hg1 (fun x e => by omega)).then_new hg2 (fun x e => by omega)⟩
              · refine g_store 34 (.tmp 2) (.tmp 71) w.heap.size X0 rfl (by kernel_rfl) (by kernel_rfl) (by kernel_rfl) (by kernel_rfl) (by kernel_rfl) 34 ⟨_, hTd.1, rfl⟩ (by rw [HS0.out]; exact info_rec) HO0.out ?_
                intro W1 hg1 hb1
                have hT1 := hTd.put1 hne hg1 hb1
                refine g_one 1 (by kernel_rfl) ?_
                refine g_load (some 72) 34 (.tmp 3) (w.heap.size + 1) 0 X1 _ rfl (by kernel_rfl) (by kernel_rfl) (by kernel_rfl) (by kernel_rfl) hT1.right Tryz.underlying34 rfl (by rw [HS1.out]; exact info_rec) ?_
                simp only [Act.put, List.setIfInBounds_toArray, List.set_cons_zero, List.set_cons_succ]
                refine g_one 3 (by kernel_rfl) ?_
                refine g_store 34 (.tmp 3) (.tmp 72) (w.heap.size + 1) X1 rfl (by kernel_rfl) (by kernel_rfl) (by kernel_rfl) (by kernel_rfl) (by kernel_rfl) 34 ⟨_, hT1.2, rfl⟩ (by rw [HS1.out]; exact info_rec) HO1.out ?_
                intro W2 hg2 hb2
                have hT2 := hT1.put2 hne hg2 hb2
                refine g_one 4 (by kernel_rfl) ?_
                refine g_pure (some 4) (.int .i64 0) rfl (by kernel_rfl) (by kernel_rfl) (by go_simp) ?_
                simp only [Act.put, List.setIfInBounds_toArray, List.set_cons_zero, List.set_cons_succ]
                refine wpAny_done (by kernel_rfl) ?_ _
                go_wp2
                exact bodyPost_ret (run_results_cell2_tmp Tryz.results11 _ _ w.heap.size (w.heap.size + 1) 34 X0 X1 (0, 0) (0, 0) _ (.int .i64 0) (by kernel_rfl) (by kernel_rfl) (by kernel_rfl) hT2.1 hT2.2 Tryz.underlying34 rfl (by rw [HS0.out]; exact info_rec) (by rw [HS1.out]; exact info_rec)) (by kernel_rfl) ⟨cfin_n_eq HX0.out HX1.out (Int.not_lt.2 HLT.out) HNZ.out HA1.out HA0.out HN.out, ((HGv.out.drew).then_new hg1 (fun x e => by omega)).then_new hg2 (fun x e => by omega)⟩
            · refine g_load (some 72) 34 (.tmp 3) (w.heap.size + 1) 0 X1 _ rfl (by kernel_rfl) (by kernel_rfl) (by kernel_rfl) (by kernel_rfl) hTd.right Tryz.underlying34 rfl (by rw [HS1.out]; exact info_rec) ?_
              simp only [Act.put, List.setIfInBounds_toArray, List.set_cons_zero, List.set_cons_succ]
              refine g_one 0 (by kernel_rfl) ?_
              refine g_load (some 71) 34 (.tmp 2) w.heap.size 0 X0 _ rfl (by kernel_rfl) (by kernel_rfl) (by kernel_rfl) (by kernel_rfl) hTd.left Tryz.underlying34 rfl (by rw [HS0.out]; exact info_rec) ?_
              simp only [Act.put, List.setIfInBounds_toArray, List.set_cons_zero, List.set_cons_succ]
              refine g_one 2 (by kernel_rfl) ?_
              refine g_store 34 (.tmp 2) (.tmp 71) w.heap.size X0 rfl (by kernel_rfl) (by kernel_rfl) (by kernel_rfl) (by kernel_rfl) (by kernel_rfl) 34 ⟨_, hTd.1, rfl⟩ (by rw [HS0.out]; exact info_rec) HO0.out ?_
              intro W1 hg1 hb1
              have hT1 := hTd.put1 hne hg1 hb1
              refine g_one 3 (by kernel_rfl) ?_
              refine g_store 34 (.tmp 3) (.tmp 72) (w.heap.size + 1) X1 rfl (by kernel_rfl) (by kernel_rfl) (by kernel_rfl) (by kernel_rfl) (by kernel_rfl) 34 ⟨_, hT1.2, rfl⟩ (by rw [HS1.out]; exact info_rec) HO1.out ?_
              intro W2 hg2 hb2
              have hT2 := hT1.put2 hne hg2 hb2
              refine g_one 4 (by kernel_rfl) ?_
              refine g_pure (some 4) (.int .i64 0) rfl (by kernel_rfl) (by kernel_rfl) (by go_simp) ?_
              simp only [Act.put, List.setIfInBounds_toArray, List.set_cons_zero, List.set_cons_succ]
              refine wpAny_done (by kernel_rfl) ?_ _
              go_wp2
              exact bodyPost_ret (run_results_cell2_tmp Tryz.results11 _ _ w.heap.size (w.heap.size + 1) 34 X0 X1 (0, 0) (0, 0) _ (.int .i64 0) (by kernel_rfl) (by kernel_rfl) (by kernel_rfl) hT2.1 hT2.2 Tryz.underlying34 rfl (by rw [HS0.out]; exact info_rec) (by rw [HS1.out]; exact info_rec)) (by kernel_rfl) ⟨cfin_n_eq HX0.out HX1.out (Int.not_lt.2 HLT.out) HNZ.out HA1.out HA0.out HN.out, ((HGv.out.drew).then_new hg1 (fun x e => by omega)).then_new hg2 (fun x e => by omega)⟩
          · skip
            have hb : (a1 != a0 - 1) = true := by rw [bne_iff_ne]; exact hn
            have HN := Lib.hid hn
            clear hn
            go_wp2_with (first
              | (refine sel (some 59) (.load 34 (.tmp 2)) ?_; refine wpList_load_rec rfl (.tmp 2) rfl w.heap.size 0 rfl X0 HTv.out.left HS0.out ?_)
              | (refine sel (some 60) (.build 34 #[]) ?_; refine wpList_pure rfl (some 60) (.agg recZ) rfl (by kernel_rfl) ?_)
              | (refine sel (some 70) (.build 34 #[]) ?_; refine wpList_pure rfl (some 70) (.agg recZ) rfl (by kernel_rfl) ?_)
              | (refine sel none (.store 34 (.tmp 3) (.tmp 70)) ?_
                 refine wpList_store_rowA rfl 34 (.tmp 3) (.tmp 70) rfl (w.heap.size + 1) recZ rfl rfl 34 _ HTv.out.2 (by rw [recZ_size]; exact info_rec) (by rw [HS1.out, recZ_size]) recZ_one ?_
                 intro v2 hgv2 hbv2
                 have HT2 := Lib.hid (HTv.out.put2 hne hgv2 hbv2)
                 have HGv := Lib.hid (HGv.out.then_new hgv2 (fun x e => by omega))
                 clear hgv2 hbv2 k2 k3))
            have hTd : Two w.heap.size (w.heap.size + 1) X0 recZ v2.drew := HT2.out
            refine wp_region_any (by kernel_rfl) ?_
            change wpAny _ _ _ _ _ _ _ (World.drew _)
            refine g_two 0 1 (by kernel_rfl) ?_ ?_
            · refine g_load (some 71) 34 (.tmp 2) w.heap.size 0 X0 _ rfl (by kernel_rfl) (by kernel_rfl) (by kernel_rfl) (by kernel_rfl) hTd.left Tryz.underlying34 rfl (by rw [HS0.out]; exact info_rec) ?_
              simp only [Act.put, List.setIfInBounds_toArray, List.set_cons_zero, List.set_cons_succ]
              refine g_two 1 2 (by kernel_rfl) ?_ ?_
              · refine g_load (some 72) 34 (.tmp 3) (w.heap.size + 1) 0 recZ _ rfl (by kernel_rfl) (by kernel_rfl) (by kernel_rfl) (by kernel_rfl) hTd.right Tryz.underlying34 rfl (by rw [recZ_size]; exact info_rec) ?_
                simp only [Act.put, List.setIfInBounds_toArray, List.set_cons_zero, List.set_cons_succ]
                refine g_one 2 (by kernel_rfl) ?_
                refine g_store 34 (.tmp 2) (.tmp 71) w.heap.size X0 rfl (by kernel_rfl) (by kernel_rfl) (by kernel_rfl) (by kernel_rfl) (by kernel_rfl) 34 ⟨_, hTd.1, rfl⟩ (by rw [HS0.out]; exact info_rec) HO0.out ?_
                intro W1 hg1 hb1
                have hT1 := hTd.put1 hne hg1 hb1
                refine g_one 3 (by kernel_rfl) ?_
                refine g_store 34 (.tmp 3) (.tmp 72) (w.heap.size + 1) recZ rfl (by kernel_rfl) (by kernel_rfl) (by kernel_rfl) (by kernel_rfl) (by kernel_rfl) 34 ⟨_, hT1.2, rfl⟩ (by rw [recZ_size]; exact info_rec) recZ_one ?_
                intro W2 hg2 hb2
                have hT2 := hT1.put2 hne hg2 hb2
                refine g_one 4 (by kernel_rfl) ?_
                refine g_pure (some 4) (.int .i64 0) rfl (by kernel_rfl) (by kernel_rfl) (by go_simp) ?_
                simp only [Act.put, List.setIfInBounds_toArray, List.set_cons_zero, List.set_cons_succ]
                refine wpAny_done (by kernel_rfl) ?_ _
                go_wp2
                exact bodyPost_ret (run_results_cell2_tmp Tryz.results11 _ _ w.heap.size (w.heap.size + 1) 34 X0 recZ (0, 0) (0, 0) _ (.int .i64 0) (by kernel_rfl) (by kernel_rfl) (by kernel_rfl) hT2.1 hT2.2 Tryz.underlying34 rfl (by rw [HS0.out]; exact info_rec) (by rw [recZ_size]; exact info_rec)) (by kernel_rfl) ⟨cfin_n_ne HX0.out HX1.out (Int.not_lt.2 HLT.out) HNZ.out HA1.out HA0.out HN.out, ((HGv.out.drew).then_new hg1 (fun x e => by omega)).then_new hg2 (fun x e => by omega)⟩
              · refine g_store 34 (.tmp 2) (.tmp 71) w.heap.size X0 rfl (by kernel_rfl) (by kernel_rfl) (by kernel_rfl) (by kernel_rfl) (by kernel_rfl) 34 ⟨_, hTd.1, rfl⟩ (by rw [HS0.out]; exact info_rec) HO0.out ?_
                intro W1 hg1 hb1
                have hT1 := hTd.put1 hne hg1 hb1
                refine g_one 1 (by kernel_rfl) ?_
                refine g_load (some 72) 34 (.tmp 3) (w.heap.size + 1) 0 recZ _ rfl (by kernel_rfl) (by kernel_rfl) (by kernel_rfl) (by kernel_rfl) hT1.right Tryz.underlying34 rfl (by rw [recZ_size]; exact info_rec) ?_
                simp only [Act.put, List.setIfInBounds_toArray, List.set_cons_zero, List.set_cons_succ]
                refine g_one 3 (by kernel_rfl) ?_
                refine g_store 34 (.tmp 3) (.tmp 72) (w.heap.size + 1) recZ rfl (by kernel_rfl) (by kernel_rfl) (by kernel_rfl) (by kernel_rfl) (by kernel_rfl) 34 ⟨_, hT1.2, rfl⟩ (by rw [recZ_size]; exact info_rec) recZ_one ?_
                intro W2 hg2 hb2
                have hT2 := hT1.put2 hne hg2 hb2
                refine g_one 4 (by kernel_rfl) ?_
                refine g_pure (some 4) (.int .i64 0) rfl (by kernel_rfl) (by kernel_rfl) (by go_simp) ?_
                simp only [Act.put, List.setIfInBounds_toArray, List.set_cons_zero, List.set_cons_succ]
                refine wpAny_done (by kernel_rfl) ?_ _
                go_wp2
                exact bodyPost_ret (run_results_cell2_tmp Tryz.results11 _ _ w.heap.size (w.heap.size + 1) 34 X0 recZ (0, 0) (0, 0) _ (.int .i64 0) (by kernel_rfl) (by kernel_rfl) (by kernel_rfl) hT2.1 hT2.2 Tryz.underlying34 rfl (by rw [HS0.out]; exact info_rec) (by rw [recZ_size]; exact info_rec)) (by kernel_rfl) ⟨cfin_n_ne HX0.out HX1.out (Int.not_lt.2 HLT.out) HNZ.out HA1.out HA0.out HN.out, ((HGv.out.drew).then_new hg1 (fun x e => by omega)).then_new hg2 (fun x e => by omega)⟩
            · refine g_load (some 72) 34 (.tmp 3) (w.heap.size + 1) 0 recZ _ rfl (by kernel_rfl) (by kernel_rfl) (by kernel_rfl) (by kernel_rfl) hTd.right Tryz.underlying34 rfl (by rw [recZ_size]; exact info_rec) ?_
              simp only [Act.put, List.setIfInBounds_toArray, List.set_cons_zero, List.set_cons_succ]
              refine g_one 0 (by kernel_rfl) ?_
              refine g_load (some 71) 34 (.tmp 2) w.heap.size 0 X0 _ rfl (by kernel_rfl) (by kernel_rfl) (by kernel_rfl) (by kernel_rfl) hTd.left Tryz.underlying34 rfl (by rw [HS0.out]; exact info_rec) ?_
              simp only [Act.put, List.setIfInBounds_toArray, List.set_cons_zero, List.set_cons_succ]
              refine g_one 2 (by kernel_rfl) ?_
              refine g_store 34 (.tmp 2) (.tmp 71) w.heap.size X0 rfl (by kernel_rfl) (by kernel_rfl) (by kernel_rfl) (by kernel_rfl) (by kernel_rfl) 34 ⟨_, hTd.1, rfl⟩ (by rw [HS0.out]; exact info_rec) HO0.out ?_
              intro W1 hg1 hb1
              have hT1 := hTd.put1 hne hg1 hb1
              refine g_one 3 (by kernel_rfl) ?_
              refine g_store 34 (.tmp 3) (.tmp 72) (w.heap.size + 1) recZ rfl (by kernel_rfl) (by kernel_rfl) (by kernel_rfl) (by kernel_rfl) (by kernel_rfl) 34 ⟨_, hT1.2, rfl⟩ (by rw [recZ_size]; exact info_rec) recZ_one ?_
              intro W2 hg2 hb2
              have hT2 := hT1.put2 hne hg2 hb2
              refine g_one 4 (by kernel_rfl) ?_
              refine g_pure (some 4) (.int .i64 0) rfl (by kernel_rfl) (by kernel_rfl) (by go_simp) ?_
              simp only [Act.put, List.setIfInBounds_toArray, List.set_cons_zero, List.set_cons_succ]
              refine wpAny_done (by kernel_rfl) ?_ _
              go_wp2
              exact bodyPost_ret (run_results_cell2_tmp Tryz.results11 _ _ w.heap.size (w.heap.size + 1) 34 X0 recZ (0, 0) (0, 0) _ (.int .i64 0) (by kernel_rfl) (by kernel_rfl) (by kernel_rfl) hT2.1 hT2.2 Tryz.underlying34 rfl (by rw [HS0.out]; exact info_rec) (by rw [recZ_size]; exact info_rec)) (by kernel_rfl) ⟨cfin_n_ne HX0.out HX1.out (Int.not_lt.2 HLT.out) HNZ.out HA1.out HA0.out HN.out, ((HGv.out.drew).then_new hg1 (fun x e => by omega)).then_new hg2 (fun x e => by omega)⟩
        · skip
          have HZ := Lib.hid (HQ.out.1 rfl)
          go_wp2_with (first
            | (refine sel (some 59) (.load 34 (.tmp 2)) ?_; refine wpList_load_rec rfl (.tmp 2) rfl w.heap.size 0 rfl X0 HTv.out.left HS0.out ?_)
            | (refine sel (some 60) (.build 34 #[]) ?_; refine wpList_pure rfl (some 60) (.agg recZ) rfl (by kernel_rfl) ?_))
          have hTd : Two w.heap.size (w.heap.size + 1) X0 X1 v.drew := HTv.out
          refine wp_region_any (by kernel_rfl) ?_
          change wpAny _ _ _ _ _ _ _ (World.drew _)
          refine g_two 0 1 (by kernel_rfl) ?_ ?_
          · refine g_load (some 62) 34 (.tmp 2) w.heap.size 0 X0 _ rfl (by kernel_rfl) (by kernel_rfl) (by kernel_rfl) (by kernel_rfl) hTd.left Tryz.underlying34 rfl (by rw [HS0.out]; exact info_rec) ?_
            simp only [Act.put, List.setIfInBounds_toArray, List.set_cons_zero, List.set_cons_succ]
            refine g_two 1 2 (by kernel_rfl) ?_ ?_
            · refine g_load (some 63) 34 (.tmp 3) (w.heap.size + 1) 0 X1 _ rfl (by kernel_rfl) (by kernel_rfl) (by kernel_rfl) (by kernel_rfl) hTd.right Tryz.underlying34 rfl (by rw [HS1.out]; exact info_rec) ?_
              simp only [Act.put, List.setIfInBounds_toArray, List.set_cons_zero, List.set_cons_succ]
              refine g_one 2 (by kernel_rfl) ?_
              refine g_store 34 (.tmp 2) (.tmp 62) w.heap.size X0 rfl (by kernel_rfl) (by kernel_rfl) (by kernel_rfl) (by kernel_rfl) (by kernel_rfl) 34 ⟨_, hTd.1, rfl⟩ (by rw [HS0.out]; exact info_rec) HO0.out ?_
              intro W1 hg1 hb1
              have hT1 := hTd.put1 hne hg1 hb1
              refine g_one 3 (by kernel_rfl) ?_
              refine g_store 34 (.tmp 3) (.tmp 63) (w.heap.size + 1) X1 rfl (by kernel_rfl) (by kernel_rfl) (by kernel_rfl) (by kernel_rfl) (by kernel_rfl) 34 ⟨_, hT1.2, rfl⟩ (by rw [HS1.out]; exact info_rec) HO1.out ?_
              intro W2 hg2 hb2
              have hT2 := hT1.put2 hne hg2 hb2
              refine g_one 4 (by kernel_rfl) ?_
              refine g_pure (some 4) (.int .i64 160) rfl (by kernel_rfl) (by kernel_rfl) (by go_simp) ?_
              simp only [Act.put, List.setIfInBounds_toArray, List.set_cons_zero, List.set_cons_succ]
              refine wpAny_done (by kernel_rfl) ?_ _
              go_wp2
              exact bodyPost_ret (run_results_cell2_tmp Tryz.results11 _ _ w.heap.size (w.heap.size + 1) 34 X0 X1 (0, 0) (0, 0) _ (.int .i64 160) (by kernel_rfl) (by kernel_rfl) (by kernel_rfl) hT2.1 hT2.2 Tryz.underlying34 rfl (by rw [HS0.out]; exact info_rec) (by rw [HS1.out]; exact info_rec)) (by kernel_rfl) ⟨cfin_n_z HX0.out HX1.out (Int.not_lt.2 HLT.out) HZ.out, ((HGv.out.drew).then_new hg1 (fun x e => by omega)).then_new hg2 (fun x e => by omega)⟩
            · refine g_store 34 (.tmp 2) (.tmp 62) w.heap.size X0 rfl (by kernel_rfl) (by kernel_rfl) (by kernel_rfl) (by kernel_rfl) (by kernel_rfl) 34 ⟨_, hTd.1, rfl⟩ (by rw [HS0.out]; exact info_rec) HO0.out ?_
              intro W1 hg1 hb1
              have hT1 := hTd.put1 hne hg1 hb1
              refine g_one 1 (by kernel_rfl) ?_
              refine g_load (some 63) 34 (.tmp 3) (w.heap.size + 1) 0 X1 _ rfl (by kernel_rfl) (by kernel_rfl) (by kernel_rfl) (by kernel_rfl) hT1.right Tryz.underlying34 rfl (by rw [HS1.out]; exact info_rec) ?_
              simp only [Act.put, List.setIfInBounds_toArray, List.set_cons_zero, List.set_cons_succ]
              refine g_one 3 (by kernel_rfl) ?_
              refine g_store 34 (.tmp 3) (.tmp 63) (w.heap.size + 1) X1 rfl (by kernel_rfl) (by kernel_rfl) (by kernel_rfl) (by kernel_rfl) (by kernel_rfl) 34 ⟨_, hT1.2, rfl⟩ (by rw [HS1.out]; exact info_rec) HO1.out ?_
              intro W2 hg2 hb2
              have hT2 := hT1.put2 hne hg2 hb2
              refine g_one 4 (by kernel_rfl) ?_
              refine g_pure (some 4) (.int .i64 160) rfl (by kernel_rfl) (by kernel_rfl) (by go_simp) ?_
              simp only [Act.put, List.setIfInBounds_toArray, List.set_cons_zero, List.set_cons_succ]
              refine wpAny_done (by kernel_rfl) ?_ _
              go_wp2
              exact bodyPost_ret (run_results_cell2_tmp Tryz.results11 _ _ w.heap.size (w.heap.size + 1) 34 X0 X1 (0, 0) (0, 0) _ (.int .i64 160) (by kernel_rfl) (by kernel_rfl) (by kernel_rfl) hT2.1 hT2.2 Tryz.underlying34 rfl (by rw [HS0.out]; exact info_rec) (by rw [HS1.out]; exact info_rec)) (by kernel_rfl) ⟨cfin_n_z HX0.out HX1.out (Int.not_lt.2 HLT.out) HZ.out, ((HGv.out.drew).then_new hg1 (fun x e => by omega)).then_new hg2 (fun x e => by omega)⟩
          · refine g_load (some 63) 34 (.tmp 3) (w.heap.size + 1) 0 X1 _ rfl (by kernel_rfl) (by kernel_rfl) (by kernel_rfl) (by kernel_rfl) hTd.right Tryz.underlying34 rfl (by rw [HS1.out]; exact info_rec) ?_
            simp only [Act.put, List.setIfInBounds_toArray, List.set_cons_zero, List.set_cons_succ]
            refine g_one 0 (by kernel_rfl) ?_
            refine g_load (some 62) 34 (.tmp 2) w.heap.size 0 X0 _ rfl (by kernel_rfl) (by kernel_rfl) (by kernel_rfl) (by kernel_rfl) hTd.left Tryz.underlying34 rfl (by rw [HS0.out]; exact info_rec) ?_
            simp only [Act.put, List.setIfInBounds_toArray, List.set_cons_zero, List.set_cons_succ]
            refine g_one 2 (by kernel_rfl) ?_
            refine g_store 34 (.tmp 2) (.tmp 62) w.heap.size X0 rfl (by kernel_rfl) (by kernel_rfl) (by kernel_rfl) (by kernel_rfl) (by kernel_rfl) 34 ⟨_, hTd.1, rfl⟩ (by rw [HS0.out]; exact info_rec) HO0.out ?_
            intro W1 hg1 hb1
            have hT1 := hTd.put1 hne hg1 hb1
            refine g_one 3 (by kernel_rfl) ?_
            refine g_store 34 (.tmp 3) (.tmp 63) (w.heap.size + 1) X1 rfl (by kernel_rfl) (by kernel_rfl) (by kernel_rfl) (by kernel_rfl) (by kernel_rfl) 34 ⟨_, hT1.2, rfl⟩ (by rw [HS1.out]; exact info_rec) HO1.out ?_
            intro W2 hg2 hb2
            have hT2 := hT1.put2 hne hg2 hb2
            refine g_one 4 (by kernel_rfl) ?_
            refine g_pure (some 4) (.int .i64 160) rfl (by kernel_rfl) (by kernel_rfl) (by go_simp) ?_
            simp only [Act.put, List.setIfInBounds_toArray, List.set_cons_zero, List.set_cons_succ]
            refine wpAny_done (by kernel_rfl) ?_ _
            go_wp2
            exact bodyPost_ret (run_results_cell2_tmp Tryz.results11 _ _ w.heap.size (w.heap.size + 1) 34 X0 X1 (0, 0) (0, 0) _ (.int .i64 160) (by kernel_rfl) (by kernel_rfl) (by kernel_rfl) hT2.1 hT2.2 Tryz.underlying34 rfl (by rw [HS0.out]; exact info_rec) (by rw [HS1.out]; exact info_rec)) (by kernel_rfl) ⟨cfin_n_z HX0.out HX1.out (Int.not_lt.2 HLT.out) HZ.out, ((HGv.out.drew).then_new hg1 (fun x e => by omega)).then_new hg2 (fun x e => by omega)⟩
end Go.Proofs.YtgmpacndjmmgjaaGreat
end
section
namespace Go.Proofs.YtgmpacndjmmgjaaGreat
open Go.RowKit
set_option linter.unusedVariables false

theorem may_ref (r : Rec) : r.may = (decide (0 < r.seqn) && decide (0 ≤ r.slot) && decide (r.slot < 2) && decide (0 < r.len) && decide (r.len ≤ 4096)) := by
  unfold Rec.may
  rw [Bool.eq_iff_iff]
  simp only [Bool.and_eq_true, Bool.or_eq_true, decide_eq_true_eq]
  omega

set_option maxRecDepth 100000 in
set_option maxHeartbeats 2000000 in
theorem rMay (r : Rec) (w : World) : Calls Tryz.prog 8 #[.agg (recA r)] w fun e w' => e = .returned (.bool r.may) ∧ Chg Non w w' := by
  have r0 := recA_0 r
  have r1 := recA_1 r
  have r2 := recA_2 r
  have hm := may_ref r
  obtain ⟨X, hX⟩ : ∃ X, recA r = X := ⟨_, rfl⟩
  obtain ⟨y, hy⟩ : ∃ y, r.may = y := ⟨_, rfl⟩
  rw [hX] at r0 r1 r2 ⊢
  rw [hy] at hm ⊢
  clear hX hy
  obtain ⟨sq, sl, ln, tr, hs⟩ := r
  simp only at r0 r1 r2 hm
  obtain ⟨b1, h1⟩ : ∃ b, decide (0 < sq) = b := ⟨_, rfl⟩
  obtain ⟨b2, h2⟩ : ∃ b, decide (0 ≤ sl) = b := ⟨_, rfl⟩
  obtain ⟨b3, h3⟩ : ∃ b, decide (sl < 2) = b := ⟨_, rfl⟩
  obtain ⟨b4, h4⟩ : ∃ b, decide (0 < ln) = b := ⟨_, rfl⟩
  obtain ⟨b5, h5⟩ : ∃ b, decide (ln ≤ 4096) = b := ⟨_, rfl⟩
  rw [h1, h2, h3, h4, h5] at hm
  subst hm
  cases b1 <;> cases b2 <;> cases b3 <;> cases b4 <;> cases b5
  all_goals
    go_enter Tryz.func8, Tryz.ntmps8
    go_wp2
    go_ret
    exact ⟨rfl, (Chg.refl _ _).alloc _⟩

/-- a record's form, of any record -/
def recFormU (r : Rec) : List UInt8 := be (u64 r.seqn) 8 ++ [UInt8.ofNat (r.slot % 256).toNat] ++ be (u64 r.len) 8 ++ [flagB r.trial] ++ r.hash

set_option maxRecDepth 100000 in
set_option maxHeartbeats 4000000 in
theorem rSector (r : Rec) (w : World) (hh : r.hash.length = 32) : Calls Tryz.prog 29 #[.agg (recA r)] w (RetB w (sealL 1 (recFormU r))) := by
  have HS := Lib.hid (recA_size r hh)
  have r0 := recA_0 r
  have r1 := recA_1 r
  have r2 := recA_2 r
  have r3 := recA_3 r
  have hT : ((recA r).toList.drop 4).take 32 = (tagA r.hash).toList := by
    rw [recA_list]
    unfold tagA
    rw [show ([.int .i64 r.seqn, .int .i64 r.slot, .int .i64 r.len, .bool r.trial] ++ r.hash.map bv : List Value).drop 4 = r.hash.map bv from rfl]
    rw [List.take_of_length_le (by simp; omega)]
  have HTs := Lib.hid (tagA_size r.hash hh)
  have HTag := Lib.hid (fun W => rTag r.hash W hh)
  have hz : ((UInt8.ofNat (r.slot % 256).toNat).toNat : Int) = r.slot % 256 := by rw [UInt8.toNat_ofNat']; omega
  have hl1 : (be (u64 r.seqn) 8).length = 8 := be_length _ _
  have hl2 : (be (u64 r.len) 8).length = 8 := be_length _ _
  have HF : Hid (recFormU r = be (u64 r.seqn) 8 ++ [UInt8.ofNat (r.slot % 256).toNat] ++ be (u64 r.len) 8 ++ [flagB r.trial] ++ r.hash) := Lib.hid rfl
  have HI1 := Lib.hid (fun W => rIntO r.seqn W)
  have HI2 := Lib.hid (fun W => rInt r.len W)
  rw [HF.out]
  obtain ⟨X, hX⟩ : ∃ X, recA r = X := ⟨_, rfl⟩
  obtain ⟨XT, hXT⟩ : ∃ X, tagA r.hash = X := ⟨_, rfl⟩
  rw [hX] at r0 r1 r2 r3 hT HS ⊢
  rw [hXT] at hT HTs
  simp only [hXT] at HTag
  obtain ⟨sq, sl, ln, tr, ha⟩ := r
  simp only at r0 r1 r2 r3 hz hl1 hl2 HI1 HI2 HTag hh ⊢
  obtain ⟨L1, hL1⟩ : ∃ L, be (u64 sq) 8 = L := ⟨_, rfl⟩
  obtain ⟨L2, hL2⟩ : ∃ L, be (u64 ln) 8 = L := ⟨_, rfl⟩
  simp only [hL1, hL2] at hl1 hl2 HI1 HI2 ⊢
  have HHH := Lib.hid hh
  have HT := Lib.hid hT
  have HL1 := Lib.hid hl1
  have HL2 := Lib.hid hl2
  clear hX hXT hL1 hL2 HF hh hT hl1 hl2
  obtain ⟨U, hU⟩ : ∃ U, w.alloc (.cells X 34) = U := ⟨_, rfl⟩
  have hUw : Chg Non w U := by rw [← hU]; exact (Chg.refl Non w).alloc _
  have hX0 : U.heap[w.heap.size]? = some (.cells X 34 (0, 0)) := by rw [← hU]; exact heap_alloc_new _ _
  have HU := Lib.hid hUw
  have HX := Lib.hid hX0
  have hcell : ∀ (W : World), Chg Non U W → W.cell? ⟨w.heap.size, 0, none⟩ = some (.int .i64 sq) ∧ W.cell? ⟨w.heap.size, 1, none⟩ = some (.int .i64 sl) ∧ W.cell? ⟨w.heap.size, 2, none⟩ = some (.int .i64 ln) ∧ W.cell? ⟨w.heap.size, 3, none⟩ = some (.bool tr) := fun W hg => by
    have hb := (hg.block w.heap.size (Array.getElem?_eq_some_iff.1 hX0).1 (fun e => e)).trans hX0
    refine ⟨?_, ?_, ?_, ?_⟩ <;> rw [cell_of_row _ _ _ _ _ _ hb] <;> assumption
  have HC := Lib.hid hcell
  obtain ⟨k0, _⟩ := hcell U (Chg.refl _ _)
  clear hcell r0 r1 r2 r3 hX0 hUw
  go_enter Tryz.func29, Tryz.ntmps29
  go_wp2_with fail
  refine (HI1.out _).mono ?_
  rintro e u1 ⟨v1, rfl, ho1, hg1⟩
  have hd1 : Chg Non U u1 := by first | exact hg1 | (rw [← hU]; exact hg1)
  obtain ⟨_, k1, _⟩ := HC.out u1 hd1
  have HO1 := Lib.hid ho1
  have HD1 := Lib.hid hd1
  clear ho1 hg1 hd1
  go_wp2_with (first
    | (refine sel (some 12) (.call { callee := .builtin .append, args := #[.tmp 7, .tmp 11], argTypes := #[35, 35] }) ?_
       refine Hole1.out ?_))
  refine ⟨?_⟩
  refine wpList_snoc rfl (.tmp 7) (.tmp 11) rfl U.heap.size v1 L1 rfl (HO1.out.non ((Chg.refl _ _).alloc _)) u1.heap.size (UInt8.ofNat (sl % 256).toNat) rfl (by rw [hz]; go_simp) (by rw [HL1.out]; omega) (by have := HD1.out.size; simp; omega) ?_
  intro v2 u2 ho2 hg2
  have hd2 : Chg Non U u2 := (HD1.out.alloc _).then_new hg2 (fun x e => e)
  obtain ⟨_, _, k2, _⟩ := HC.out u2 hd2
  have HO2 := Lib.hid ho2
  have HD2 := Lib.hid hd2
  clear ho2 hg2 hd2 k1
  go_wp2_with fail
  refine (HI2.out _).mono ?_
  rintro e u3 ⟨A3, c3, rfl, _, _, ho3, hg3⟩
  have HR3 := Lib.hid ho3.rd
  have HD3 := Lib.hid (HD2.out.then_non hg3)
  have HO3 := Lib.hid (HO2.out.non hg3)
  clear ho3 hg3
  go_wp2_with (first
    | (refine sel (some 17) (.call { callee := .builtin .append, args := #[.tmp 13, .tmp 16], argTypes := #[35, 35] }) ?_
       refine Hole1.out ?_))
  refine ⟨?_⟩
  refine wpList_bytes rfl (.tmp 13) (.tmp 16) rfl U.heap.size v2 _ rfl HO3.out A3 L2 c3 rfl HR3.out (fun e => by have := HL2.out; rw [e] at this; cases this) (by simp [HL1.out]) (by rw [HL2.out]; omega) HD3.out.size ?_
  intro v4 u4 ho4 hg4
  have hd4 : Chg Non U u4 := HD3.out.then_new hg4 (fun x e => e)
  obtain ⟨_, _, _, k3⟩ := HC.out u4 hd4
  have HO4 := Lib.hid ho4
  have HD4 := Lib.hid hd4
  have HFl := Lib.hid (rFlag tr u4)
  clear ho4 hg4 hd4 k2
  go_wp2_with fail
  refine HFl.out.mono ?_
  rintro e u5 ⟨A5, c5, rfl, _, _, ho5, hg5⟩
  have HR5 := Lib.hid ho5.rd
  have HD5 := Lib.hid (HD4.out.then_non hg5)
  have HO5 := Lib.hid (HO4.out.non hg5)
  clear ho5 hg5 k3
  go_wp2_with (first
    | (refine sel (some 22) (.call { callee := .builtin .append, args := #[.tmp 18, .tmp 21], argTypes := #[35, 35] }) ?_
       refine Hole1.out ?_))
  refine ⟨?_⟩
  refine wpList_bytes rfl (.tmp 18) (.tmp 21) rfl U.heap.size v4 _ rfl HO5.out A5 [flagB tr] c5 rfl HR5.out (fun e => by cases e) (by simp [HL1.out, HL2.out]) (by simp) HD5.out.size ?_
  intro v6 u6 ho6 hg6
  have hd6 : Chg Non U u6 := HD5.out.then_new hg6 (fun x e => e)
  have HO6 := Lib.hid ho6
  have HD6 := Lib.hid hd6
  have HRow := Lib.hid (range_keep (T := Non) (b := w.heap.size) (o := 4) (cs := XT.toList) hd6 (by
    intro j v hv
    rw [cell_of_row _ _ _ _ _ _ HX.out]
    have hj : j < 32 := by have := (List.getElem?_eq_some_iff.1 hv).1; rw [Array.length_toList, HTs.out] at this; exact this
    rw [← HT.out, List.getElem?_take_of_lt hj, List.getElem?_drop] at hv
    simpa using hv) (fun e => e))
  clear ho6 hg6 hd6
  go_wp2_with (first
    | (refine sel (some 25) (.load 32 (.tmp 24)) ?_
       refine wpList_loadW (some 25) 32 (.tmp 24) w.heap.size 4 XT _ rfl rfl (by kernel_rfl) (by kernel_rfl) HRow.out Tryz.underlying32 rfl (by rw [HTs.out]; kernel_rfl) ?_))
  refine (HTag.out _).mono ?_
  rintro e u7 ⟨A7, c7, rfl, _, _, ho7, hg7⟩
  have HR7 := Lib.hid ho7.rd
  have HD7 := Lib.hid (HD6.out.then_non hg7)
  have HO7 := Lib.hid (HO6.out.non hg7)
  clear ho7 hg7
  go_wp2_with (first
    | (refine sel (some 27) (.call { callee := .builtin .append, args := #[.tmp 23, .tmp 26], argTypes := #[35, 35] }) ?_
       refine Hole1.out ?_))
  refine ⟨?_⟩
  refine wpList_bytes rfl (.tmp 23) (.tmp 26) rfl U.heap.size v6 _ rfl HO7.out A7 ha c7 rfl HR7.out (fun e => by have := HHH.out; rw [e] at this; cases this) (by simp [HL1.out, HL2.out]) (by rw [HHH.out]; omega) HD7.out.size ?_
  intro v8 u8 ho8 hg8
  have hd8 : Chg Non U u8 := HD7.out.then_new hg8 (fun x e => e)
  obtain ⟨A8, c8, rfl, _, _, how⟩ := ho8.slice
  have hlen : (L1 ++ [UInt8.ofNat (sl % 256).toNat] ++ L2 ++ [flagB tr] ++ ha).length = 50 := by simp [HL1.out, HL2.out, HHH.out]
  have HSe := Lib.hid (rSeal 1 A8 _ c8 u8 how.rd (fun e => by rw [e] at hlen; cases hlen) (by rw [hlen]; omega))
  have HD8 := Lib.hid (HU.out.then_non hd8)
  rw [hlen] at HSe ⊢
  clear ho8 hg8 hd8 how hlen
  go_wp2_with fail
  refine HSe.out.mono ?_
  rintro e u9 ⟨A9, c9, rfl, j1, j2, j3, j4⟩
  have hsl : (sealL 1 (L1 ++ [UInt8.ofNat (sl % 256).toNat] ++ L2 ++ [flagB tr] ++ ha)).length = 64 := sealL_len _ _ (by simp [HL1.out, HL2.out, HHH.out])
  have HR := Lib.hid (RetB.from (show RetB u8 (sealL 1 (L1 ++ [UInt8.ofNat (sl % 256).toNat] ++ L2 ++ [flagB tr] ++ ha)) (.returned (.slice A9 64 c9)) u9 from ⟨A9, c9, by rw [hsl], j1, j2, j3, j4⟩) HD8.out)
  rw [hsl]
  clear j1 j2 j3 j4 hsl
  go_wp2_with fail
  go_ret
  exact HR.out
end Go.Proofs.YtgmpacndjmmgjaaGreat
end
section
namespace Go.Proofs.YtgmpacndjmmgjaaGreat
open Go.RowKit
set_option linter.unusedVariables false

/-- a reader of l in block p, of which k bytes were taken, with the error er -/
def IsRd (B : Nat → Prop) (p : Nat) (w : World) (l : List UInt8) (k : Nat) (er : Int) : Prop :=
  ∃ A c, w.heap[p]? = some (.cells #[.slice A l.length c, .int .i64 (k : Int), .int .i64 er] 120 (0, 0)) ∧ (B p ∧ ∀ b o, A = some ⟨b, o, none⟩ → l ≠ [] → B b) ∧ l.length ≤ c ∧ c ≤ maxLen ∧ Own 0 w A l

set_option maxRecDepth 100000 in
set_option maxHeartbeats 1000000 in
theorem rNew (A : Option Addr) (l : List UInt8) (c : Nat) (w : World) (h : Rd w A l) (hl : l.length ≤ 65536) :
    Calls Tryz.prog 60 #[.slice A l.length c] w fun e w' => ∃ p, e = .returned (.pointer (some ⟨p, 0, none⟩)) ∧ IsRd (fun x => w.heap.size ≤ x ∧ x < w'.heap.size) p w' l 0 0 ∧ Chg Non w w' := by
  have HC := Lib.hid (rCopy A l c w h (by omega))
  have hd : decide (65536 < (l.length : Int)) = false := by simp; omega
  clear h
  go_enter Tryz.func60, Tryz.ntmps60
  go_wp2_with fail
  refine HC.out.mono ?_
  rintro e u ⟨A2, c2, rfl, h1, h2, h3, h4⟩
  have HO := Lib.hid h3
  have HG := Lib.hid h4
  have HK := Lib.hid (And.intro h1 h2)
  clear h1 h2 h3 h4
  go_wp2_with fail
  go_ret
  exact ⟨u.heap.size, rfl, ⟨A2, c2, heap_alloc_new _ _, ⟨⟨HG.out.size, by simp⟩, fun b o e hl => ⟨by subst e; exact HO.out.ge hl, by subst e; have := (HO.out.rd.at_ (List.length_pos_iff.2 hl)); obtain ⟨b', o', e', h', _⟩ := this; injection e' with e'; injection e' with e' _ _; subst e'; simp; omega⟩⟩, HK.out.1, HK.out.2, (HO.out.mono (Nat.zero_le _)).non ((Chg.refl Non u).alloc _)⟩, HG.out.alloc _⟩
end Go.Proofs.YtgmpacndjmmgjaaGreat
end
section
namespace Go.Proofs.YtgmpacndjmmgjaaGreat
open Go.RowKit
set_option linter.unusedVariables false

theorem r5_cell {w : World} {b : Nat} {C : Array Value} {t : TypeId} {fr : Nat × Nat} (h : w.heap[b]? = some (.cells C t fr)) {i : Nat} {v : Value} (hv : C[i]? = some v) : w.cell? ⟨b, i, none⟩ = some v := by
  rw [cell_of_row _ _ _ _ _ _ h]; exact hv
theorem r5_blk {w W : World} {b : Nat} {x : Obj} (hg : Chg Non w W) (h : w.heap[b]? = some x) : W.heap[b]? = some x :=
  (hg.block b (Array.getElem?_eq_some_iff.1 h).1 (fun e => e)).trans h
theorem r5_setI {w : World} {g i : Nat} {cs : Array Value} {t : TypeId} (u : Value) (h : w.heap[g]? = some (.cells cs t (0, 0))) : (w.setCell ⟨g, i, none⟩ u).heap[g]? = some (.cells (cs.setIfInBounds i u) t (0, 0)) := by
  have hlt := (Array.getElem?_eq_some_iff.1 h).1
  have h' : w.heap[g] = .cells cs t (0, 0) := by simpa [Array.getElem?_eq_getElem hlt] using h
  show (w.heap.modify g _)[g]? = _
  rw [Array.getElem?_eq_getElem (by simpa using hlt), Array.getElem_modify_self, h']
  rfl
theorem IsRd.cells {B : Nat → Prop} {p : Nat} {w : World} {l : List UInt8} {k : Nat} {er : Int} (h : IsRd B p w l k er) : ∃ A c, w.cell? ⟨p, 0, none⟩ = some (.slice A l.length c) ∧ w.cell? ⟨p, 1, none⟩ = some (.int .i64 (k : Nat)) ∧ w.cell? ⟨p, 2, none⟩ = some (.int .i64 er) ∧ p < w.heap.size ∧ (∀ i, w.frozen? ⟨p, i, none⟩ = false) ∧ l.length ≤ c ∧ c ≤ maxLen ∧ Rd w A l := by
  obtain ⟨A, c, hb, hp, h1, h2, ho⟩ := h
  refine ⟨A, c, r5_cell hb rfl, r5_cell hb rfl, r5_cell hb rfl, (Array.getElem?_eq_some_iff.1 hb).1, ?_, h1, h2, ho.rd⟩
  intro i
  simp only [World.frozen?]
  rw [hb]
  simp
theorem IsRd.non {B : Nat → Prop} {p : Nat} {w w' : World} {l : List UInt8} {k : Nat} {er : Int} (h : IsRd B p w l k er) (hg : Chg Non w w') : IsRd B p w' l k er := by
  obtain ⟨A, c, hb, hp, h1, h2, ho⟩ := h
  exact ⟨A, c, r5_blk hg hb, hp, h1, h2, ho.non hg⟩
/-- a block of a reader holds no bytes -/
theorem rdr_ne {w : World} {p B : Nat} {A : Option Addr} {l : List UInt8} {v : Value} {x' y' : Int} {t : TypeId} (hb : w.heap[p]? = some (.cells #[v, .int .i64 x', .int .i64 y'] t (0, 0))) (hv : ∀ z : UInt8, v ≠ .int .u8 (z.toNat : Int)) (ho : Own B w A l) : ∀ b o, A = some ⟨b, o, none⟩ → l ≠ [] → b ≠ p := by
  rintro b o rfl hl rfl
  obtain ⟨z, r, rfl⟩ := List.exists_cons_of_ne_nil hl
  obtain ⟨b', o', e, _, hc, _⟩ := ho 0 z rfl
  injection e with e
  injection e with e1 e2 _
  subst e1 e2
  simp only [World.cell?, hb, Nat.add_zero] at hc
  match o, hc with
  | 0, hc => simp at hc; exact hv z hc
  | 1, hc => simp at hc
  | 2, hc => simp at hc
  | n + 3, hc => simp at hc
theorem IsRd.setAt {B : Nat → Prop} {p : Nat} {w : World} {l : List UInt8} {k : Nat} {er : Int} (h : IsRd B p w l k er) (n : Nat) : IsRd B p (w.setCell ⟨p, 1, none⟩ (.int .i64 (n : Nat))) l n er := by
  obtain ⟨A, c, hb, hp, h1, h2, ho⟩ := h
  refine ⟨A, c, r5_setI _ hb, hp, h1, h2, ho.keep ((Chg.refl (fun x => x = p) _).setCell (p := ⟨p, 1, none⟩) (.inl rfl) _) (fun b o e1 e2 e3 => rdr_ne hb (fun z => by simp) ho b o e1 e3)⟩
theorem IsRd.setEr {B : Nat → Prop} {p : Nat} {w : World} {l : List UInt8} {k : Nat} {er : Int} (h : IsRd B p w l k er) (n : Int) : IsRd B p (w.setCell ⟨p, 2, none⟩ (.int .i64 n)) l k n := by
  obtain ⟨A, c, hb, hp, h1, h2, ho⟩ := h
  refine ⟨A, c, r5_setI _ hb, hp, h1, h2, ho.keep ((Chg.refl (fun x => x = p) _).setCell (p := ⟨p, 2, none⟩) (.inl rfl) _) (fun b o e1 e2 e3 => rdr_ne hb (fun z => by simp) ho b o e1 e3)⟩
set_option maxRecDepth 100000 in
set_option maxHeartbeats 2000000 in
theorem rNext_broken (B : Nat → Prop) (p n : Nat) (l : List UInt8) (k : Nat) (er : Int) (he : er ≠ 0) (w : World) (h : IsRd B p w l k er) (hl : l.length ≤ 65536) :
    Calls Tryz.prog 94 #[.pointer (some ⟨p, 0, none⟩), .int .i64 n] w fun e w' => e = .returned (.tuple #[.slice none 0 0, .bool false]) ∧ w = w' := by
  obtain ⟨A, c, c0, c1, c2, _, _, _⟩ := h.cells
  have hb : (er != 0) = true := by rw [bne_iff_ne]; exact he
  clear h
  go_enter Tryz.func94, Tryz.ntmps94
  go_wp2_with fail
  go_ret2
  exact ⟨rfl, rfl⟩
set_option maxRecDepth 100000 in
set_option maxHeartbeats 2000000 in
theorem rNext_short (B : Nat → Prop) (p n : Nat) (l : List UInt8) (k : Nat) (hk : k ≤ l.length) (hn : l.length < k + n) (hn2 : n ≤ 1000) (w : World) (h : IsRd B p w l k 0) (hl : l.length ≤ 65536) :
    Calls Tryz.prog 94 #[.pointer (some ⟨p, 0, none⟩), .int .i64 n] w fun e w' => e = .returned (.tuple #[.slice none 0 0, .bool false]) ∧ IsRd B p w' l k 50 ∧ Chg (fun x => x = p) w w' := by
  have hb : decide ((n : Int) > (l.length : Int) - (k : Int)) = true := by rw [decide_eq_true_eq]; omega
  have wlk : IntKind.i64.wrap ((l.length : Int) - (k : Int)) = (l.length : Int) - (k : Int) := Go.IntWalk.i64_in _ (by omega)
  obtain ⟨A, c, c0, c1, c2, hlt, hfr, hc1, hc2, hr⟩ := h.cells
  have HI := Lib.hid h
  have HR := Lib.hid hr
  have h0 : ((0 : Int) != 0) = false := rfl
  have f1 := hfr 1
  have f2 := hfr 2
  clear h hr hfr
  go_enter Tryz.func94, Tryz.ntmps94
  go_wp2_with fail
  refine wp_region_held_drew (S := fun W => Chg Non w W) (by kernel_rfl) ((Chg.refl Non _).drew) (fun hHeld => ?_)
  clear hHeld
  refine h_pure 0 (some 11) (.int .i64 n) rfl (by kernel_rfl) (by kernel_rfl) (by kernel_rfl) (by kernel_rfl) (fun _ _ _ h => h) (by kernel_rfl) (fun W hW => by go_simp) ((Chg.refl Non _).drew) ?_
  simp only [Act.put, List.setIfInBounds_toArray, List.set_cons_zero, List.set_cons_succ]
  refine h_pure 1 (some 12) (.pointer (some ⟨p, 0, none⟩)) rfl (by kernel_rfl) (by kernel_rfl) (by kernel_rfl) (by kernel_rfl) (fun _ _ _ h => h) (by kernel_rfl) (fun W hW => by go_simp) ((Chg.refl Non _).drew) ?_
  simp only [Act.put, List.setIfInBounds_toArray, List.set_cons_zero, List.set_cons_succ]
  refine h_pure 2 (some 13) (.pointer (some ⟨p, 0, none⟩)) rfl (by kernel_rfl) (by kernel_rfl) (by kernel_rfl) (by kernel_rfl) (fun _ _ _ h => h) (by kernel_rfl) (fun W hW => by go_simp) ((Chg.refl Non _).drew) ?_
  simp only [Act.put, List.setIfInBounds_toArray, List.set_cons_zero, List.set_cons_succ]
  refine h_pure 3 (some 14) (.pointer (some ⟨p, 0, none⟩)) rfl (by kernel_rfl) (by kernel_rfl) (by kernel_rfl) (by kernel_rfl) (fun _ _ _ h => h) (by kernel_rfl) (fun W hW => by go_simp) ((Chg.refl Non _).drew) ?_
  simp only [Act.put, List.setIfInBounds_toArray, List.set_cons_zero, List.set_cons_succ]
  refine h_pure 4 (some 15) (.slice A l.length c) rfl (by kernel_rfl) (by kernel_rfl) (by kernel_rfl) (by kernel_rfl) (fun _ _ _ h => h) (by kernel_rfl) (fun W hW => by have hq := hW.cell_some c0 (fun e => e); go_simp) ((Chg.refl Non _).drew) ?_
  simp only [Act.put, List.setIfInBounds_toArray, List.set_cons_zero, List.set_cons_succ]
  refine h_pure 5 (some 16) (.int .i64 l.length) rfl (by kernel_rfl) (by kernel_rfl) (by kernel_rfl) (by kernel_rfl) (fun _ _ _ h => h) (by kernel_rfl) (fun W hW => by go_simp) ((Chg.refl Non _).drew) ?_
  simp only [Act.put, List.setIfInBounds_toArray, List.set_cons_zero, List.set_cons_succ]
  refine h_pure 6 (some 17) (.pointer (some ⟨p, 0, none⟩)) rfl (by kernel_rfl) (by kernel_rfl) (by kernel_rfl) (by kernel_rfl) (fun _ _ _ h => h) (by kernel_rfl) (fun W hW => by go_simp) ((Chg.refl Non _).drew) ?_
  simp only [Act.put, List.setIfInBounds_toArray, List.set_cons_zero, List.set_cons_succ]
  refine h_pure 7 (some 18) (.pointer (some ⟨p, 0, none⟩)) rfl (by kernel_rfl) (by kernel_rfl) (by kernel_rfl) (by kernel_rfl) (fun _ _ _ h => h) (by kernel_rfl) (fun W hW => by go_simp) ((Chg.refl Non _).drew) ?_
  simp only [Act.put, List.setIfInBounds_toArray, List.set_cons_zero, List.set_cons_succ]
  refine h_pure 8 (some 19) (.pointer (some ⟨p, 1, none⟩)) rfl (by kernel_rfl) (by kernel_rfl) (by kernel_rfl) (by kernel_rfl) (fun _ _ _ h => h) (by kernel_rfl) (fun W hW => by go_simp) ((Chg.refl Non _).drew) ?_
  simp only [Act.put, List.setIfInBounds_toArray, List.set_cons_zero, List.set_cons_succ]
  refine h_pure 9 (some 20) (.int .i64 k) rfl (by kernel_rfl) (by kernel_rfl) (by kernel_rfl) (by kernel_rfl) (fun _ _ _ h => h) (by kernel_rfl) (fun W hW => by have hq := hW.cell_some c1 (fun e => e); go_simp) ((Chg.refl Non _).drew) ?_
  simp only [Act.put, List.setIfInBounds_toArray, List.set_cons_zero, List.set_cons_succ]
  refine h_pure 10 (some 21) (.int .i64 ((l.length : Int) - (k : Int))) rfl (by kernel_rfl) (by kernel_rfl) (by kernel_rfl) (by kernel_rfl) (fun _ _ _ h => h) (by kernel_rfl) (fun W hW => by go_simp) ((Chg.refl Non _).drew) ?_
  simp only [Act.put, List.setIfInBounds_toArray, List.set_cons_zero, List.set_cons_succ]
  refine h_pure 11 (some 22) (.bool true) rfl (by kernel_rfl) (by kernel_rfl) (by kernel_rfl) (by kernel_rfl) (fun _ _ _ h => h) (by kernel_rfl) (fun W hW => by go_simp) ((Chg.refl Non _).drew) ?_
  simp only [Act.put, List.setIfInBounds_toArray, List.set_cons_zero, List.set_cons_succ]
  refine wpAnyH_done (by kernel_rfl) ?_ _
  have HI := Lib.hid ((HI.out.non ((Chg.refl Non _).drew)).setEr 50)
  have HG : Hid (Chg (fun x => x = p) w (w.drew.setCell ⟨p, 2, none⟩ (.int .i64 50))) := Lib.hid (((Chg.refl (fun x => x = p) w).drew).setCell (p := ⟨p, 2, none⟩) (.inl rfl) _)
  have c2 : w.drew.cell? ⟨p, 2, none⟩ = some (.int .i64 0) := c2
  have f2 : w.drew.frozen? ⟨p, 2, none⟩ = false := f2
  have hlt : p < w.drew.heap.size := hlt
  generalize w.drew = w9 at *
  go_wp2_with fail
  go_ret2
  exact ⟨rfl, HI.out, HG.out⟩
set_option maxRecDepth 100000 in
set_option maxHeartbeats 2000000 in
theorem rNext_ok (B : Nat → Prop) (p n : Nat) (l : List UInt8) (k : Nat) (hn : k + n ≤ l.length) (hn1 : 1 ≤ n) (hn2 : n ≤ 1000) (w : World) (h : IsRd B p w l k 0) (hl : l.length ≤ 65536) :
    Calls Tryz.prog 94 #[.pointer (some ⟨p, 0, none⟩), .int .i64 n] w fun e w' => ∃ A2 c2, e = .returned (.tuple #[.slice A2 n c2, .bool true]) ∧ Own w.heap.size w' A2 ((l.drop k).take n) ∧ n ≤ c2 ∧ IsRd B p w' l (k + n) 0 ∧ Chg (fun x => x = p) w w' := by
  have hb : decide ((n : Int) > (l.length : Int) - (k : Int)) = false := by rw [decide_eq_false_iff_not]; omega
  obtain ⟨kn, hkn⟩ : ∃ kn, k + n = kn := ⟨_, rfl⟩
  have hkni : (k : Int) + (n : Int) = (kn : Int) := by omega
  have hsub : (kn : Int) - (n : Int) = (k : Int) := by omega
  have hknb : kn ≤ 65536 := by omega
  have hnk : kn - k = n := by omega
  rw [hkn] at hn ⊢
  have HKn := Lib.hid hkn
  clear hkn
  have wlk : IntKind.i64.wrap ((l.length : Int) - (k : Int)) = (l.length : Int) - (k : Int) := Go.IntWalk.i64_in _ (by omega)
  obtain ⟨A, c, c0, c1, c2, hlt, hfr, hc1, hc2, hr⟩ := h.cells
  have HI := Lib.hid h
  have HR := Lib.hid hr
  have h0 : ((0 : Int) != 0) = false := rfl
  have f1 := hfr 1
  have f2 := hfr 2
  clear h hr hfr
  go_enter Tryz.func94, Tryz.ntmps94
  go_wp2_with fail
  refine wp_region_held_drew (S := fun W => Chg Non w W) (by kernel_rfl) ((Chg.refl Non _).drew) (fun hHeld => ?_)
  clear hHeld
  refine h_pure 0 (some 11) (.int .i64 n) rfl (by kernel_rfl) (by kernel_rfl) (by kernel_rfl) (by kernel_rfl) (fun _ _ _ h => h) (by kernel_rfl) (fun W hW => by go_simp) ((Chg.refl Non _).drew) ?_
  simp only [Act.put, List.setIfInBounds_toArray, List.set_cons_zero, List.set_cons_succ]
  refine h_pure 1 (some 12) (.pointer (some ⟨p, 0, none⟩)) rfl (by kernel_rfl) (by kernel_rfl) (by kernel_rfl) (by kernel_rfl) (fun _ _ _ h => h) (by kernel_rfl) (fun W hW => by go_simp) ((Chg.refl Non _).drew) ?_
  simp only [Act.put, List.setIfInBounds_toArray, List.set_cons_zero, List.set_cons_succ]
  refine h_pure 2 (some 13) (.pointer (some ⟨p, 0, none⟩)) rfl (by kernel_rfl) (by kernel_rfl) (by kernel_rfl) (by kernel_rfl) (fun _ _ _ h => h) (by kernel_rfl) (fun W hW => by go_simp) ((Chg.refl Non _).drew) ?_
  simp only [Act.put, List.setIfInBounds_toArray, List.set_cons_zero, List.set_cons_succ]
  refine h_pure 3 (some 14) (.pointer (some ⟨p, 0, none⟩)) rfl (by kernel_rfl) (by kernel_rfl) (by kernel_rfl) (by kernel_rfl) (fun _ _ _ h => h) (by kernel_rfl) (fun W hW => by go_simp) ((Chg.refl Non _).drew) ?_
  simp only [Act.put, List.setIfInBounds_toArray, List.set_cons_zero, List.set_cons_succ]
  refine h_pure 4 (some 15) (.slice A l.length c) rfl (by kernel_rfl) (by kernel_rfl) (by kernel_rfl) (by kernel_rfl) (fun _ _ _ h => h) (by kernel_rfl) (fun W hW => by have hq := hW.cell_some c0 (fun e => e); go_simp) ((Chg.refl Non _).drew) ?_
  simp only [Act.put, List.setIfInBounds_toArray, List.set_cons_zero, List.set_cons_succ]
  refine h_pure 5 (some 16) (.int .i64 l.length) rfl (by kernel_rfl) (by kernel_rfl) (by kernel_rfl) (by kernel_rfl) (fun _ _ _ h => h) (by kernel_rfl) (fun W hW => by go_simp) ((Chg.refl Non _).drew) ?_
  simp only [Act.put, List.setIfInBounds_toArray, List.set_cons_zero, List.set_cons_succ]
  refine h_pure 6 (some 17) (.pointer (some ⟨p, 0, none⟩)) rfl (by kernel_rfl) (by kernel_rfl) (by kernel_rfl) (by kernel_rfl) (fun _ _ _ h => h) (by kernel_rfl) (fun W hW => by go_simp) ((Chg.refl Non _).drew) ?_
  simp only [Act.put, List.setIfInBounds_toArray, List.set_cons_zero, List.set_cons_succ]
  refine h_pure 7 (some 18) (.pointer (some ⟨p, 0, none⟩)) rfl (by kernel_rfl) (by kernel_rfl) (by kernel_rfl) (by kernel_rfl) (fun _ _ _ h => h) (by kernel_rfl) (fun W hW => by go_simp) ((Chg.refl Non _).drew) ?_
  simp only [Act.put, List.setIfInBounds_toArray, List.set_cons_zero, List.set_cons_succ]
  refine h_pure 8 (some 19) (.pointer (some ⟨p, 1, none⟩)) rfl (by kernel_rfl) (by kernel_rfl) (by kernel_rfl) (by kernel_rfl) (fun _ _ _ h => h) (by kernel_rfl) (fun W hW => by go_simp) ((Chg.refl Non _).drew) ?_
  simp only [Act.put, List.setIfInBounds_toArray, List.set_cons_zero, List.set_cons_succ]
  refine h_pure 9 (some 20) (.int .i64 k) rfl (by kernel_rfl) (by kernel_rfl) (by kernel_rfl) (by kernel_rfl) (fun _ _ _ h => h) (by kernel_rfl) (fun W hW => by have hq := hW.cell_some c1 (fun e => e); go_simp) ((Chg.refl Non _).drew) ?_
  simp only [Act.put, List.setIfInBounds_toArray, List.set_cons_zero, List.set_cons_succ]
  refine h_pure 10 (some 21) (.int .i64 ((l.length : Int) - (k : Int))) rfl (by kernel_rfl) (by kernel_rfl) (by kernel_rfl) (by kernel_rfl) (fun _ _ _ h => h) (by kernel_rfl) (fun W hW => by go_simp) ((Chg.refl Non _).drew) ?_
  simp only [Act.put, List.setIfInBounds_toArray, List.set_cons_zero, List.set_cons_succ]
  refine h_pure 11 (some 22) (.bool false) rfl (by kernel_rfl) (by kernel_rfl) (by kernel_rfl) (by kernel_rfl) (fun _ _ _ h => h) (by kernel_rfl) (fun W hW => by go_simp) ((Chg.refl Non _).drew) ?_
  simp only [Act.put, List.setIfInBounds_toArray, List.set_cons_zero, List.set_cons_succ]
  refine wpAnyH_done (by kernel_rfl) ?_ _
  have HI := Lib.hid ((HI.out.non ((Chg.refl Non _).drew)).setAt kn)
  have HG : Hid (Chg (fun x => x = p) w (w.drew.setCell ⟨p, 1, none⟩ (.int .i64 (kn : Nat)))) := Lib.hid (((Chg.refl (fun x => x = p) w).drew).setCell (p := ⟨p, 1, none⟩) (.inl rfl) _)
  have c1 : w.drew.cell? ⟨p, 1, none⟩ = some (.int .i64 (k : Nat)) := c1
  have f1 : w.drew.frozen? ⟨p, 1, none⟩ = false := f1
  have hlt : p < w.drew.heap.size := hlt
  clear c0 c2 HR hc1 hc2
  generalize w.drew = w9 at *
  go_wp2_with fail
  generalize w9.setCell ⟨p, 1, none⟩ (.int .i64 (kn : Nat)) = w1 at HI HG ⊢
  clear c1 f1 hlt
  obtain ⟨A3, c3, c0, c1, c2, hlt, hfr, hc1, hc2, hr⟩ := HI.out.cells
  obtain ⟨b, o, rfl, _, _⟩ := hr.at_ (by omega)
  have hrd : Rd w1 (some ⟨b, o + k, none⟩) ((l.drop k).take n) := (hr.drop k).take n
  have hlen : ((l.drop k).take n).length = n := by have := HKn.out; rw [List.length_take, List.length_drop]; omega
  have HCp := Lib.hid (fun W (hg : Chg Non w1 W) => rCopy (some ⟨b, o + k, none⟩) ((l.drop k).take n) (c3 - k) W (hrd.non hg) (by omega))
  rw [hlen] at HCp
  have hkc : (kn : Int) ≤ (c3 : Int) := by omega
  have hkk : (k : Int) ≤ (kn : Int) := by omega
  have wk : IntKind.i64.wrap (k : Int) = (k : Int) := Go.IntWalk.i64_in _ (by omega)
  have hck : ¬ c3 = k := by omega
  clear hr hrd hfr
  refine wp_region_held_drew (S := fun W => Chg Non w1 W) (by kernel_rfl) ((Chg.refl Non _).drew) (fun hHeld => ?_)
  clear hHeld
  refine h_pure 0 (some 35) (.pointer (some ⟨p, 0, none⟩)) rfl (by kernel_rfl) (by kernel_rfl) (by kernel_rfl) (by kernel_rfl) (fun _ _ _ h => h) (by kernel_rfl) (fun W hW => by go_simp) ((Chg.refl Non _).drew) ?_
  simp only [Act.put, List.setIfInBounds_toArray, List.set_cons_zero, List.set_cons_succ]
  refine h_pure 1 (some 36) (.pointer (some ⟨p, 0, none⟩)) rfl (by kernel_rfl) (by kernel_rfl) (by kernel_rfl) (by kernel_rfl) (fun _ _ _ h => h) (by kernel_rfl) (fun W hW => by go_simp) ((Chg.refl Non _).drew) ?_
  simp only [Act.put, List.setIfInBounds_toArray, List.set_cons_zero, List.set_cons_succ]
  refine h_pure 2 (some 37) (.pointer (some ⟨p, 0, none⟩)) rfl (by kernel_rfl) (by kernel_rfl) (by kernel_rfl) (by kernel_rfl) (fun _ _ _ h => h) (by kernel_rfl) (fun W hW => by go_simp) ((Chg.refl Non _).drew) ?_
  simp only [Act.put, List.setIfInBounds_toArray, List.set_cons_zero, List.set_cons_succ]
  refine h_pure 3 (some 38) (.slice (some ⟨b, o, none⟩) l.length c3) rfl (by kernel_rfl) (by kernel_rfl) (by kernel_rfl) (by kernel_rfl) (fun _ _ _ h => h) (by kernel_rfl) (fun W hW => by have hq := hW.cell_some c0 (fun e => e); go_simp) ((Chg.refl Non _).drew) ?_
  simp only [Act.put, List.setIfInBounds_toArray, List.set_cons_zero, List.set_cons_succ]
  refine h_pure 4 (some 39) (.pointer (some ⟨p, 0, none⟩)) rfl (by kernel_rfl) (by kernel_rfl) (by kernel_rfl) (by kernel_rfl) (fun _ _ _ h => h) (by kernel_rfl) (fun W hW => by go_simp) ((Chg.refl Non _).drew) ?_
  simp only [Act.put, List.setIfInBounds_toArray, List.set_cons_zero, List.set_cons_succ]
  refine h_pure 5 (some 40) (.pointer (some ⟨p, 0, none⟩)) rfl (by kernel_rfl) (by kernel_rfl) (by kernel_rfl) (by kernel_rfl) (fun _ _ _ h => h) (by kernel_rfl) (fun W hW => by go_simp) ((Chg.refl Non _).drew) ?_
  simp only [Act.put, List.setIfInBounds_toArray, List.set_cons_zero, List.set_cons_succ]
  refine h_pure 6 (some 41) (.pointer (some ⟨p, 1, none⟩)) rfl (by kernel_rfl) (by kernel_rfl) (by kernel_rfl) (by kernel_rfl) (fun _ _ _ h => h) (by kernel_rfl) (fun W hW => by go_simp) ((Chg.refl Non _).drew) ?_
  simp only [Act.put, List.setIfInBounds_toArray, List.set_cons_zero, List.set_cons_succ]
  refine h_pure 7 (some 42) (.int .i64 kn) rfl (by kernel_rfl) (by kernel_rfl) (by kernel_rfl) (by kernel_rfl) (fun _ _ _ h => h) (by kernel_rfl) (fun W hW => by have hq := hW.cell_some c1 (fun e => e); go_simp) ((Chg.refl Non _).drew) ?_
  simp only [Act.put, List.setIfInBounds_toArray, List.set_cons_zero, List.set_cons_succ]
  refine h_pure 8 (some 43) (.int .i64 n) rfl (by kernel_rfl) (by kernel_rfl) (by kernel_rfl) (by kernel_rfl) (fun _ _ _ h => h) (by kernel_rfl) (fun W hW => by go_simp) ((Chg.refl Non _).drew) ?_
  simp only [Act.put, List.setIfInBounds_toArray, List.set_cons_zero, List.set_cons_succ]
  refine h_pure 9 (some 44) (.int .i64 k) rfl (by kernel_rfl) (by kernel_rfl) (by kernel_rfl) (by kernel_rfl) (fun _ _ _ h => h) (by kernel_rfl) (fun W hW => by go_simp) ((Chg.refl Non _).drew) ?_
  simp only [Act.put, List.setIfInBounds_toArray, List.set_cons_zero, List.set_cons_succ]
  refine h_pure 10 (some 45) (.pointer (some ⟨p, 0, none⟩)) rfl (by kernel_rfl) (by kernel_rfl) (by kernel_rfl) (by kernel_rfl) (fun _ _ _ h => h) (by kernel_rfl) (fun W hW => by go_simp) ((Chg.refl Non _).drew) ?_
  simp only [Act.put, List.setIfInBounds_toArray, List.set_cons_zero, List.set_cons_succ]
  refine h_pure 11 (some 46) (.pointer (some ⟨p, 0, none⟩)) rfl (by kernel_rfl) (by kernel_rfl) (by kernel_rfl) (by kernel_rfl) (fun _ _ _ h => h) (by kernel_rfl) (fun W hW => by go_simp) ((Chg.refl Non _).drew) ?_
  simp only [Act.put, List.setIfInBounds_toArray, List.set_cons_zero, List.set_cons_succ]
  refine h_pure 12 (some 47) (.pointer (some ⟨p, 1, none⟩)) rfl (by kernel_rfl) (by kernel_rfl) (by kernel_rfl) (by kernel_rfl) (fun _ _ _ h => h) (by kernel_rfl) (fun W hW => by go_simp) ((Chg.refl Non _).drew) ?_
  simp only [Act.put, List.setIfInBounds_toArray, List.set_cons_zero, List.set_cons_succ]
  refine h_pure 13 (some 48) (.int .i64 kn) rfl (by kernel_rfl) (by kernel_rfl) (by kernel_rfl) (by kernel_rfl) (fun _ _ _ h => h) (by kernel_rfl) (fun W hW => by have hq := hW.cell_some c1 (fun e => e); go_simp) ((Chg.refl Non _).drew) ?_
  simp only [Act.put, List.setIfInBounds_toArray, List.set_cons_zero, List.set_cons_succ]
  refine h_pure 14 (some 49) (.slice (some ⟨b, o + k, none⟩) n (c3 - k)) rfl (by kernel_rfl) (by kernel_rfl) (by kernel_rfl) (by kernel_rfl) (fun _ _ _ h => h) (by kernel_rfl) (fun W hW => by go_simp) ((Chg.refl Non _).drew) ?_
  simp only [Act.put, List.setIfInBounds_toArray, List.set_cons_zero, List.set_cons_succ]
  refine h_one 15 (by kernel_rfl) rfl (by kernel_rfl) ?_
  intro K hK
  go_simp
  refine (HCp.out _ ((Chg.refl Non _).drew)).mono ?_
  rintro e u ⟨A2, c2', rfl, g1, g2, g3, g4⟩
  have HU : Hid (Chg Non w1 u) := Lib.hid (((Chg.refl Non _).drew).then_non g4)
  have HO : Hid (Own w.heap.size u A2 ((l.drop k).take n)) := Lib.hid (g3.mono HG.out.size)
  have hn2c : n ≤ c2' := by rw [hlen] at g1; exact g1
  refine hK.out _ _ HU.out (fun _ => ?_)
  clear hK K g3 g4
  refine h_pure 16 (some 4) (.slice A2 n c2') rfl (by kernel_rfl) (by kernel_rfl) (by kernel_rfl) (by kernel_rfl) (fun _ _ _ h => h) (by kernel_rfl) (fun W hW => by go_simp) HU.out ?_
  simp only [Act.put, List.setIfInBounds_toArray, List.set_cons_zero, List.set_cons_succ]
  refine h_pure 17 (some 5) (.bool true) rfl (by kernel_rfl) (by kernel_rfl) (by kernel_rfl) (by kernel_rfl) (fun _ _ _ h => h) (by kernel_rfl) (fun W hW => by go_simp) HU.out ?_
  simp only [Act.put, List.setIfInBounds_toArray, List.set_cons_zero, List.set_cons_succ]
  refine wpAnyH_done (by kernel_rfl) ?_ _
  go_wp2_with fail
  go_ret2
  exact ⟨A2, c2', rfl, HO.out, hn2c, HI.out.non HU.out, HG.out.then_non HU.out⟩
set_option maxRecDepth 100000 in
set_option maxHeartbeats 2000000 in
theorem rNumb_ok (B : Nat → Prop) (p n : Nat) (l : List UInt8) (k : Nat) (w : World) (h : IsRd B p w l k 0) (hn : k + n ≤ l.length) (hn1 : 1 ≤ n) (hn2 : n ≤ 8) (hl : l.length ≤ 65536) :
    Calls Tryz.prog 93 #[.pointer (some ⟨p, 0, none⟩), .int .i64 n] w fun e w' => e = .returned (.int .u64 (num ((l.drop k).take n) : Nat)) ∧ IsRd B p w' l (k + n) 0 ∧ Chg (fun x => x = p) w w' := by
  have HN := Lib.hid (rNext_ok B p n l k hn hn1 (by omega) w h hl)
  have hlen : ((l.drop k).take n).length = n := by rw [List.length_take, List.length_drop]; omega
  obtain ⟨m, hm⟩ : ∃ m, (l.drop k).take n = m := ⟨_, rfl⟩
  rw [hm] at hlen HN ⊢
  have HM := Lib.hid hlen
  clear h hm hlen
  go_enter Tryz.func93, Tryz.ntmps93
  go_wp2_with fail
  refine HN.out.mono ?_
  rintro e w1 ⟨A2, c2, rfl, h1, _, h2, h3⟩
  have hnb := rNumber A2 m c2 w1 h1.rd (by rw [HM.out]; omega) (by rw [HM.out]; omega)
  rw [HM.out] at hnb
  have HNb := Lib.hid hnb
  have HI := Lib.hid h2
  have HG := Lib.hid h3
  clear h1 h2 h3 hnb
  go_wp2_with fail
  refine HNb.out.mono ?_
  rintro e w2 ⟨rfl, rfl⟩
  go_wp2_with fail
  go_ret
  exact ⟨rfl, HI.out, HG.out⟩
set_option maxRecDepth 100000 in
set_option maxHeartbeats 2000000 in
theorem rNumb_short (B : Nat → Prop) (p n : Nat) (l : List UInt8) (k : Nat) (w : World) (h : IsRd B p w l k 0) (hk : k ≤ l.length) (hn : l.length < k + n) (hn2 : n ≤ 8) (hl : l.length ≤ 65536) :
    Calls Tryz.prog 93 #[.pointer (some ⟨p, 0, none⟩), .int .i64 n] w fun e w' => e = .returned (.int .u64 0) ∧ IsRd B p w' l k 50 ∧ Chg (fun x => x = p) w w' := by
  have HN := Lib.hid (rNext_short B p n l k hk hn (by omega) w h hl)
  clear h
  go_enter Tryz.func93, Tryz.ntmps93
  go_wp2_with fail
  refine HN.out.mono ?_
  rintro e w1 ⟨rfl, h1, h2⟩
  have HI := Lib.hid h1
  have HG := Lib.hid h2
  clear h1 h2
  go_wp2_with fail
  go_ret
  exact ⟨rfl, HI.out, HG.out⟩
set_option maxRecDepth 100000 in
set_option maxHeartbeats 2000000 in
theorem rNumb_broken (B : Nat → Prop) (p n : Nat) (l : List UInt8) (k : Nat) (er : Int) (he : er ≠ 0) (w : World) (h : IsRd B p w l k er) (hl : l.length ≤ 65536) :
    Calls Tryz.prog 93 #[.pointer (some ⟨p, 0, none⟩), .int .i64 n] w fun e w' => e = .returned (.int .u64 0) ∧ w = w' := by
  have HN := Lib.hid (rNext_broken B p n l k er he w h hl)
  clear h
  go_enter Tryz.func93, Tryz.ntmps93
  go_wp2_with fail
  refine HN.out.mono ?_
  rintro e w1 ⟨rfl, rfl⟩
  go_wp2_with fail
  go_ret
  exact ⟨rfl, rfl⟩
/-- what a reader of the document stands for: the rest, if it is whole -/
def RdSt (B : Nat → Prop) (p : Nat) (w : World) (l : List UInt8) (rest : List UInt8) (er : Int) : Prop := ∃ k, IsRd B p w l k er ∧ (er = 0 → l.drop k = rest ∧ k ≤ l.length)
theorem RdSt.non {B : Nat → Prop} {p : Nat} {w w' : World} {l rest : List UInt8} {er : Int} (h : RdSt B p w l rest er) (hg : Chg Non w w') : RdSt B p w' l rest er := by
  obtain ⟨k, h1, h2⟩ := h
  exact ⟨k, h1.non hg, h2⟩
set_option maxRecDepth 100000 in
set_option maxHeartbeats 2000000 in
theorem rRInt (B : Nat → Prop) (p : Nat) (l rest : List UInt8) (er : Int) (w : World) (h : RdSt B p w l rest er) (hl : l.length ≤ 65536) :
    Calls Tryz.prog 61 #[.pointer (some ⟨p, 0, none⟩)] w fun e w' => e = .returned (.int .i64 (rdInt rest er).1) ∧ RdSt B p w' l (rdInt rest er).2.1 (rdInt rest er).2.2 ∧ Chg (fun x => x = p) w w' := by
  obtain ⟨k, hI, hs⟩ := h
  unfold rdInt
  by_cases he : er = 0
  · subst he
    obtain ⟨hd, hk⟩ := hs rfl
    rw [if_pos rfl]
    have hrl : rest.length = l.length - k := by rw [← hd, List.length_drop]
    by_cases h8 : 8 ≤ rest.length
    · rw [if_pos h8]
      have HN := Lib.hid (rNumb_ok B p 8 l k w hI (by omega) (by omega) (by omega) hl)
      rw [hd] at HN
      have hdd : l.drop (k + 8) = rest.drop 8 := by rw [← hd, List.drop_drop]
      obtain ⟨X, hX⟩ : ∃ X, num (rest.take 8) = X := ⟨_, rfl⟩
      rw [hX] at HN ⊢
      have hxb : X < 18446744073709551616 := by rw [← hX]; have := num_lt (rest.take 8); rw [List.length_take, Nat.min_eq_left h8] at this; exact this
      clear hI hs hX
      go_enter Tryz.func61, Tryz.ntmps61
      go_wp2_with fail
      refine HN.out.mono ?_
      rintro e w1 ⟨rfl, h1, h2⟩
      have HI := Lib.hid h1
      have HG := Lib.hid h2
      clear h1 h2
      go_wp2_with fail
      go_ret
      exact ⟨rfl, ⟨k + 8, HI.out, fun _ => ⟨hdd, by omega⟩⟩, HG.out⟩
    · rw [if_neg h8]
      have HN := Lib.hid (rNumb_short B p 8 l k w hI hk (by omega) (by omega) hl)
      clear hI hs
      go_enter Tryz.func61, Tryz.ntmps61
      go_wp2_with fail
      refine HN.out.mono ?_
      rintro e w1 ⟨rfl, h1, h2⟩
      have HI := Lib.hid h1
      have HG := Lib.hid h2
      clear h1 h2
      go_wp2_with fail
      go_ret
      exact ⟨rfl, ⟨k, HI.out, fun e => by simp at e⟩, HG.out⟩
  · rw [if_neg he]
    have HN := Lib.hid (rNumb_broken B p 8 l k er he w hI hl)
    have HI := Lib.hid hI
    have HSt := Lib.hid hs
    clear hI hs
    go_enter Tryz.func61, Tryz.ntmps61
    go_wp2_with fail
    refine HN.out.mono ?_
    rintro e w1 ⟨rfl, rfl⟩
    go_wp2_with fail
    go_ret
    exact ⟨rfl, ⟨k, HI.out, HSt.out⟩, Chg.refl _ _⟩
end Go.Proofs.YtgmpacndjmmgjaaGreat
end
section
namespace Go.Proofs.YtgmpacndjmmgjaaGreat
set_option linter.unusedVariables false

structure Rk where
  l : List (List UInt8 × Option (List UInt8))
  down : Bool
  left : Int
  stay : List UInt8
namespace Rk
/-- the sectors behind a crash, the n-th of the cache on -/
def fallL (stay : List UInt8) : Nat → List (List UInt8 × Option (List UInt8)) → List (List UInt8 × Option (List UInt8))
  | _, [] => []
  | n, (f, none) :: t => (f, none) :: fallL stay n t
  | n, (f, some c) :: t => ((if Dk.bit stay n then c else f), none) :: fallL stay (n + 1) t
def fall (E : Rk) (stay : List UInt8) : Rk := ⟨fallL stay 0 E.l, true, 0, []⟩
def falls (E : Rk) : Rk × Bool :=
  if E.left = 0 then (E, false) else if 0 < E.left - 1 then ({ E with left := E.left - 1 }, false) else (E.fall E.stay, true)
def write (E : Rk) (i : Int) (b : List UInt8) : Rk × Int :=
  if E.down = true then (E, 60)
  else if ¬ (0 ≤ i ∧ i < E.l.length) then (E, 61)
  else if b.length ≠ 64 then (E, 2)
  else if E.falls.2 = true then (E.falls.1, 60)
  else ({ E.falls.1 with l := E.falls.1.l.set i.toNat ((E.falls.1.l.getD i.toNat ([], none)).1, some b) }, 0)
/-- the cache comes to the sectors -/
def flushL (l : List (List UInt8 × Option (List UInt8))) : List (List UInt8 × Option (List UInt8)) := l.map fun x => (x.2.getD x.1, none)
def flush (E : Rk) : Rk × Int :=
  if E.down = true then (E, 60)
  else if E.falls.2 = true then (E.falls.1, 60)
  else ({ E.falls.1 with l := flushL E.falls.1.l }, 0)
def crash (E : Rk) (stay : List UInt8) : Rk × Int := if E.down = true then (E, 60) else (E.fall stay, 0)
def arm (E : Rk) (n : Int) (stay : List UInt8) : Rk × Int := if E.down = true then (E, 60) else if n < 1 then (E, 2) else ({ E with left := n, stay := stay }, 0)
def start (E : Rk) : Rk × Int := if E.down = true then ({ E with down := false }, 0) else (E, 2)
def new (n : Nat) : Rk := ⟨List.replicate n (List.replicate 64 0, none), false, 0, []⟩
end Rk

/-- the program's disk and the document's are the same -/
structure DSame (D : Dk) (E : Rk) : Prop where
  fl : E.l.map (·.1) = D.sec
  ca : ∀ i, (E.l[i]?).bind (·.2) = look D.cache i
  up : D.up = !E.down
  left : D.left = E.left
  stay : D.stay = E.stay
theorem DSame.len {D : Dk} {E : Rk} (h : DSame D E) : E.l.length = D.sec.length := by rw [← h.fl, List.length_map]

theorem new_same (n : Nat) : DSame (Dk.new n) (Rk.new n) := by
  refine ⟨by simp [Rk.new, Dk.new], ?_, rfl, rfl, rfl⟩
  intro i
  simp only [Rk.new, Dk.new, look, List.find?_nil, Option.map_none, List.getElem?_replicate]
  split <;> rfl

/-! ### The sorted keys are those of the range that the cache holds -/
theorem look_isSome {m : List (Nat × List UInt8)} {i : Nat} : (look m i).isSome = true ↔ i ∈ m.map (·.1) := by
  unfold look
  rw [Option.isSome_map, List.find?_isSome]
  simp
theorem dirty_filter {D : Dk} (h : D.Ok) : dirty D.cache = (List.range D.sec.length).filter fun i => (look D.cache i).isSome := by
  have hp : (dirty D.cache).Perm ((List.range D.sec.length).filter fun i => (look D.cache i).isSome) := by
    refine (List.mergeSort_perm _ _).trans ?_
    refine (List.perm_ext_iff_of_nodup h.nodup (List.Pairwise.filter _ List.nodup_range)).2 ?_
    intro i
    rw [List.mem_filter, List.mem_range, look_isSome]
    constructor
    · intro hi
      refine ⟨?_, hi⟩
      obtain ⟨q, hq, rfl⟩ := List.mem_map.1 hi
      exact (h.keys q hq).1
    · exact fun hi => hi.2
  have h1 : (dirty D.cache).Pairwise (fun a b => a ≤ b) := by
    have := List.pairwise_mergeSort (le := fun a b : Nat => decide (a ≤ b)) (by intro a b c; simp; omega) (by intro a b; simp; omega) (D.cache.map (·.1))
    exact this.imp (by intro a b hab; simpa using hab)
  have h2 : ((List.range D.sec.length).filter fun i => (look D.cache i).isSome).Pairwise (fun a b => a ≤ b) := List.Pairwise.filter _ (List.pairwise_le_range)
  exact hp.eq_of_pairwise (fun a b _ _ h1 h2 => Nat.le_antisymm h1 h2) h1 h2
/-- which one of the sorted keys a key is -/
theorem filter_range_at (p : Nat → Bool) (N j : Nat) (hj : j < N) (hp : p j = true) : ((List.range N).filter p)[(List.range j).countP p]? = some j := by
  obtain ⟨k, rfl⟩ : ∃ k, N = j + (1 + k) := ⟨N - j - 1, by omega⟩
  rw [List.range_add, List.filter_append, List.countP_eq_length_filter, List.getElem?_append_right (Nat.le_refl _), Nat.sub_self, Nat.add_comm 1 k, List.range_succ_eq_map, List.map_cons, Nat.add_zero, List.filter_cons_of_pos hp]
  rfl
theorem spill_in {D : Dk} (h : D.Ok) (st : Nat → Bool) {m j : Nat} (hm : (dirty D.cache)[m]? = some j) (hj : j < D.sec.length) (hn : (dirty D.cache).Nodup) : ∀ n, (D.spillTo st n).length = D.sec.length ∧ (D.spillTo st n)[j]? = if m < n ∧ st m = true then some ((look D.cache j).getD []) else D.sec[j]? := by
  intro n
  induction n with
  | zero => exact ⟨rfl, by rw [if_neg (by omega)]; rfl⟩
  | succ n ih =>
    unfold Dk.spillTo
    cases hd : (dirty D.cache)[n]? with
    | none =>
      have hml : m < (dirty D.cache).length := (List.getElem?_eq_some_iff.1 hm).1
      have hnl : (dirty D.cache).length ≤ n := List.getElem?_eq_none_iff.1 hd
      refine ⟨ih.1, ?_⟩
      show (D.spillTo st n)[j]? = _
      rw [ih.2]
      have e : (m < n ∧ st m = true) ↔ (m < n + 1 ∧ st m = true) := by constructor <;> (intro hx; exact ⟨by omega, hx.2⟩)
      simp only [e]
    | some k =>
      simp only
      by_cases hst : st n = true
      · rw [if_pos hst]
        refine ⟨by rw [List.length_set]; exact ih.1, ?_⟩
        rw [List.getElem?_set]
        by_cases hk : k = j
        · subst hk
          have hnm : m = n := by
            obtain ⟨h1, e1⟩ := List.getElem?_eq_some_iff.1 hm
            obtain ⟨h2, e2⟩ := List.getElem?_eq_some_iff.1 hd
            have hp := List.pairwise_iff_getElem.1 hn
            rcases Nat.lt_trichotomy m n with hx | hx | hx
            · exact absurd (e1.trans e2.symm) (hp m n h1 h2 hx)
            · exact hx
            · exact absurd (e2.trans e1.symm) (hp n m h2 h1 hx)
          subst hnm
          rw [if_pos rfl, if_pos (by rw [ih.1]; exact hj), if_pos ⟨by omega, hst⟩]
        · rw [if_neg hk, ih.2]
          have hne : m ≠ n := by rintro rfl; rw [hm] at hd; injection hd with hd; exact hk hd.symm
          have e : (m < n ∧ st m = true) ↔ (m < n + 1 ∧ st m = true) := by constructor <;> (intro hx; exact ⟨by omega, hx.2⟩)
          simp only [e]
      · rw [if_neg hst]
        refine ⟨ih.1, ?_⟩
        rw [ih.2]
        by_cases hmn : m = n
        · subst hmn
          rw [if_neg (by omega), if_neg (fun hx => hst hx.2)]
        · have e : (m < n ∧ st m = true) ↔ (m < n + 1 ∧ st m = true) := by constructor <;> (intro hx; exact ⟨by omega, hx.2⟩)
          simp only [e]
theorem spill_out {D : Dk} (st : Nat → Bool) {j : Nat} (hj : j ∉ dirty D.cache) : ∀ n, (D.spillTo st n)[j]? = D.sec[j]? := by
  intro n
  induction n with
  | zero => rfl
  | succ n ih =>
    unfold Dk.spillTo
    cases hd : (dirty D.cache)[n]? with
    | none => exact ih
    | some k =>
      simp only
      split
      · rw [List.getElem?_set_ne (by rintro rfl; exact hj (List.mem_of_getElem? hd)), ih]
      · exact ih
theorem fallL_at (stay : List UInt8) : ∀ (l : List (List UInt8 × Option (List UInt8))) (n j : Nat), (Rk.fallL stay n l)[j]? = (l[j]?).map fun x => match x.2 with
    | none => (x.1, none)
    | some c => ((if Dk.bit stay (n + (List.range j).countP fun i => ((l[i]?).bind (·.2)).isSome) then c else x.1), none) := by
  intro l
  induction l with
  | nil => intro n j; simp [Rk.fallL]
  | cons x t ih =>
    intro n j
    obtain ⟨f, c⟩ := x
    cases j with
    | zero =>
      cases c with
      | none => simp [Rk.fallL]
      | some c => by_cases hb : Dk.bit stay n = true <;> simp [Rk.fallL, hb]
    | succ j =>
      have hc : (List.range (j + 1)).countP (fun i => ((((f, c) :: t)[i]?).bind (·.2)).isSome) = (if c.isSome then 1 else 0) + (List.range j).countP fun i => ((t[i]?).bind (·.2)).isSome := by
        rw [List.range_succ_eq_map, List.countP_cons, List.countP_map]
        simp only [List.getElem?_cons_zero, Option.bind_some]
        have e : ((fun i => ((((f, c) :: t)[i]?).bind (·.2)).isSome) ∘ Nat.succ) = fun i => ((t[i]?).bind (·.2)).isSome := by funext i; simp
        rw [e, Nat.add_comm]
      rw [hc]
      cases c with
      | none =>
        show (Rk.fallL stay n t)[j]? = _
        rw [ih]
        simp
      | some c =>
        show (Rk.fallL stay (n + 1) t)[j]? = _
        rw [ih]
        simp [Nat.add_assoc]
theorem fallL_len (stay : List UInt8) : ∀ (l : List (List UInt8 × Option (List UInt8))) (n : Nat), (Rk.fallL stay n l).length = l.length := by
  intro l
  induction l with
  | nil => intro n; rfl
  | cons x t ih =>
    intro n
    obtain ⟨f, c⟩ := x
    cases c <;> simp [Rk.fallL, ih]
theorem dirty_nodup {D : Dk} (h : D.Ok) : (dirty D.cache).Nodup := (List.mergeSort_perm _ _).nodup_iff.2 h.nodup
theorem spillTo_all {D : Dk} (h : D.Ok) (st : Nat → Bool) (j : Nat) : (D.spillTo st D.cache.length)[j]? = if (look D.cache j).isSome = true ∧ st ((List.range j).countP fun i => (look D.cache i).isSome) = true then look D.cache j else D.sec[j]? := by
  have hdl : (dirty D.cache).length = D.cache.length := (List.mergeSort_perm _ _).length_eq.trans (List.length_map _)
  by_cases hl : (look D.cache j).isSome = true
  · have hj : j < D.sec.length := by
      obtain ⟨q, hq, rfl⟩ := List.mem_map.1 (look_isSome.1 hl)
      exact (h.keys q hq).1
    have hm : (dirty D.cache)[(List.range j).countP fun i => (look D.cache i).isSome]? = some j := by
      rw [dirty_filter h]
      exact filter_range_at _ _ j hj hl
    rw [(spill_in h st hm hj (dirty_nodup h) _).2]
    have hlt := (List.getElem?_eq_some_iff.1 hm).1
    rw [hdl] at hlt
    obtain ⟨v, hv⟩ := Option.isSome_iff_exists.1 hl
    by_cases hst : st ((List.range j).countP fun i => (look D.cache i).isSome) = true
    · rw [if_pos ⟨hlt, hst⟩, if_pos ⟨hl, hst⟩, hv]; rfl
    · rw [if_neg (fun x => hst x.2), if_neg (fun x => hst x.2)]
  · rw [if_neg (fun x => hl x.1)]
    refine spill_out st ?_ _
    intro hd
    exact hl (look_isSome.2 ((List.mergeSort_perm _ _).mem_iff.1 hd))
theorem fall_same {D : Dk} {E : Rk} (hok : D.Ok) (h : DSame D E) (stay : List UInt8) : DSame (D.fall stay) (E.fall stay) := by
  refine ⟨?_, ?_, rfl, rfl, rfl⟩
  · show (Rk.fallL stay 0 E.l).map (·.1) = D.spillTo (Dk.bit stay) D.cache.length
    apply List.ext_getElem?
    intro j
    have hca : (fun i => ((E.l[i]?).bind (·.2)).isSome) = fun i => (look D.cache i).isSome := by funext i; rw [h.ca]
    have hs : D.sec[j]? = (E.l[j]?).map (·.1) := by rw [← h.fl, List.getElem?_map]
    rw [spillTo_all hok, List.getElem?_map, fallL_at, hca, Nat.zero_add, ← h.ca j, hs]
    cases E.l[j]? with
    | none => simp
    | some x =>
      obtain ⟨f, c⟩ := x
      cases c with
      | none => simp
      | some c =>
        simp only [Option.map_some, Option.bind_some, Option.isSome_some, true_and]
        split <;> simp_all
  · intro i
    show ((Rk.fallL stay 0 E.l)[i]?).bind (·.2) = look [] i
    rw [fallL_at]
    cases E.l[i]? with
    | none => rfl
    | some x => obtain ⟨f, c⟩ := x; cases c <;> rfl
theorem look_upd (m : List (Nat × List UInt8)) (i : Nat) (l : List UInt8) (j : Nat) : look (upd m i l) j = if j = i then some l else look m j := by
  have hmap : ∀ m : List (Nat × List UInt8), look (m.map fun p => if p.1 == i then (i, l) else p) j = if j = i then (if (m.find? fun p => p.1 == i).isSome then some l else none) else look m j := by
    intro m
    induction m with
    | nil => simp [look]
    | cons p m ih =>
      obtain ⟨a, v⟩ := p
      unfold look at ih ⊢
      rw [List.map_cons, List.find?_cons, List.find?_cons, List.find?_cons]
      by_cases ha : a = i
      · subst ha
        by_cases hj : j = a
        · subst hj; simp
        · have h1 : (a == j) = false := by simpa using fun e => hj e.symm
          rw [if_neg hj] at ih ⊢
          simp only [beq_self_eq_true, if_true, h1]
          exact ih
      · have h1 : (a == i) = false := by simpa using ha
        simp only [h1, Bool.false_eq_true, if_false]
        by_cases hj : j = i
        · subst hj
          rw [if_pos rfl] at ih ⊢
          simp only [h1]
          exact ih
        · rw [if_neg hj] at ih ⊢
          by_cases haj : a = j
          · subst haj; simp
          · have h2 : (a == j) = false := by simpa using haj
            simp only [h2]
            exact ih
  unfold upd
  split
  · rename_i h
    rw [hmap, if_pos h]
  · rename_i h
    unfold look
    rw [List.find?_append]
    by_cases hj : j = i
    · subst hj
      have hn : (m.find? fun p => p.1 == j) = none := Option.not_isSome_iff_eq_none.1 h
      rw [hn, if_pos rfl]
      simp
    · have h2 : (i == j) = false := by simpa using fun e => hj e.symm
      rw [if_neg hj]
      simp [h2]
theorem falls_same {D : Dk} {E : Rk} (hok : D.Ok) (h : DSame D E) :
    (D.left = 1 ∧ E.falls.2 = true ∧ DSame (D.fall D.stay) E.falls.1) ∨ (D.left ≠ 1 ∧ E.falls.2 = false ∧ DSame { D with left := max (D.left - 1) 0 } E.falls.1 ∧ E.falls.1.l = E.l ∧ E.falls.1.down = E.down) := by
  have h0 := hok.left0
  have hl := h.left
  unfold Rk.falls
  by_cases h1 : D.left = 1
  · left
    rw [if_neg (by omega), if_neg (by omega)]
    refine ⟨h1, rfl, ?_⟩
    rw [← h.stay]
    exact fall_same hok h D.stay
  · right
    by_cases h2 : E.left = 0
    · rw [if_pos h2]
      exact ⟨h1, rfl, ⟨h.fl, h.ca, h.up, by show max (D.left - 1) 0 = E.left; omega, h.stay⟩, rfl, rfl⟩
    · rw [if_neg h2, if_pos (by omega)]
      exact ⟨h1, rfl, ⟨h.fl, h.ca, h.up, by show max (D.left - 1) 0 = E.left - 1; omega, h.stay⟩, rfl, rfl⟩
theorem up_iff {D : Dk} {E : Rk} (h : DSame D E) : (D.up = false) = (E.down = true) := by
  rw [h.up]
  cases E.down <;> simp
theorem write_same {D : Dk} {E : Rk} (hok : D.Ok) (h : DSame D E) (i : Int) (b : List UInt8) : DSame (D.write i b).1 (E.write i b).1 ∧ (D.write i b).2 = (E.write i b).2 := by
  unfold Dk.write Rk.write
  simp only [up_iff h, h.len]
  split
  · exact ⟨h, rfl⟩
  split
  · exact ⟨h, rfl⟩
  rename_i hi
  split
  · exact ⟨h, rfl⟩
  unfold Dk.operate
  rcases falls_same hok h with ⟨h1, h2, h3⟩ | ⟨h1, h2, h3, h4, h5⟩
  · rw [if_pos h1, if_pos h2]
    exact ⟨h3, rfl⟩
  · rw [if_neg h1, if_neg (by rw [h2]; simp)]
    have hi' : i.toNat < E.falls.1.l.length := by rw [h4, h.len]; omega
    refine ⟨⟨?_, ?_, h3.up, h3.left, h3.stay⟩, rfl⟩
    · show (E.falls.1.l.set i.toNat _).map (·.1) = D.sec
      rw [← h3.fl]
      apply List.ext_getElem?
      intro j
      rw [List.getElem?_map, List.getElem?_map, List.getElem?_set]
      split
      · rename_i e
        subst e
        rw [List.getElem?_eq_getElem hi', List.getD_eq_getElem?_getD, List.getElem?_eq_getElem hi']
        rfl
      · rfl
    · intro j
      show ((E.falls.1.l.set i.toNat _)[j]?).bind (·.2) = look (upd D.cache i.toNat b) j
      rw [look_upd, List.getElem?_set]
      by_cases e : i.toNat = j
      · rw [if_pos e, if_pos e.symm, if_pos hi']
        rfl
      · rw [if_neg e, if_neg (fun x => e x.symm)]
        exact h3.ca j
theorem flush_same {D : Dk} {E : Rk} (hok : D.Ok) (h : DSame D E) : DSame D.flush.1 E.flush.1 ∧ D.flush.2 = E.flush.2 := by
  unfold Dk.flush Rk.flush
  simp only [up_iff h]
  split
  · exact ⟨h, rfl⟩
  unfold Dk.operate
  rcases falls_same hok h with ⟨h1, h2, h3⟩ | ⟨h1, h2, h3, h4, h5⟩
  · rw [if_pos h1, if_pos h2]
    exact ⟨h3, rfl⟩
  · rw [if_neg h1, if_neg (by rw [h2]; simp)]
    have hok' : Dk.Ok { D with left := max (D.left - 1) 0 } := ⟨hok.secs, hok.keys, hok.nodup, hok.most, by show 0 ≤ max (D.left - 1) 0; omega⟩
    refine ⟨⟨?_, ?_, h3.up, h3.left, h3.stay⟩, rfl⟩
    · show (Rk.flushL E.falls.1.l).map (·.1) = Dk.spillTo { D with left := max (D.left - 1) 0 } (fun _ => true) D.cache.length
      apply List.ext_getElem?
      intro j
      have hs := spillTo_all hok' (fun _ => true) j
      rw [hs]
      simp only [and_true]
      rw [Rk.flushL, List.map_map, List.getElem?_map, ← h3.ca j, ← h3.fl, List.getElem?_map]
      cases E.falls.1.l[j]? with
      | none => rfl
      | some x =>
        obtain ⟨f, c⟩ := x
        cases c <;> simp
    · intro j
      show ((Rk.flushL E.falls.1.l)[j]?).bind (·.2) = look [] j
      rw [Rk.flushL, List.getElem?_map]
      cases E.falls.1.l[j]? <;> rfl
theorem crash_same {D : Dk} {E : Rk} (hok : D.Ok) (h : DSame D E) (stay : List UInt8) : DSame (D.crash stay).1 (E.crash stay).1 ∧ (D.crash stay).2 = (E.crash stay).2 := by
  unfold Dk.crash Rk.crash
  simp only [up_iff h]
  split
  · exact ⟨h, rfl⟩
  · exact ⟨fall_same hok h stay, rfl⟩
theorem arm_same {D : Dk} {E : Rk} (h : DSame D E) (n : Int) (stay : List UInt8) : DSame (D.arm n stay).1 (E.arm n stay).1 ∧ (D.arm n stay).2 = (E.arm n stay).2 := by
  unfold Dk.arm Rk.arm
  simp only [up_iff h]
  split
  · exact ⟨h, rfl⟩
  split
  · exact ⟨h, rfl⟩
  · exact ⟨⟨h.fl, h.ca, h.up, rfl, rfl⟩, rfl⟩
theorem start_same {D : Dk} {E : Rk} (h : DSame D E) : DSame D.start.1 E.start.1 ∧ D.start.2 = E.start.2 := by
  unfold Dk.start Rk.start
  have hu := h.up
  cases hd : E.down with
  | true =>
    rw [hd] at hu
    rw [if_neg (by rw [hu]; simp), if_pos rfl]
    exact ⟨⟨h.fl, h.ca, rfl, h.left, h.stay⟩, rfl⟩
  | false =>
    rw [hd] at hu
    rw [if_pos (by rw [hu]; rfl), if_neg (by simp)]
    exact ⟨h, rfl⟩
/-- what a read tells -/
theorem at_same {D : Dk} {E : Rk} (h : DSame D E) (i : Nat) (f : List UInt8) (c : Option (List UInt8)) (hi : E.l[i]? = some (f, c)) : D.at_ i = c.getD f ∧ D.sec.getD i [] = f := by
  have hs : D.sec[i]? = some f := by rw [← h.fl, List.getElem?_map, hi]; rfl
  have hc : look D.cache i = c := by rw [← h.ca i, hi]; rfl
  unfold Dk.at_
  rw [hc, List.getD_eq_getElem?_getD, hs]
  exact ⟨rfl, rfl⟩
end Go.Proofs.YtgmpacndjmmgjaaGreat
end
section
namespace Go.Proofs.YtgmpacndjmmgjaaGreat
open Go.RowKit
set_option linter.unusedVariables false

/-- the record that the document sees in a sector -/
def rAt (s : List UInt8) (i : Nat) : Option Rec := if (recRd s).2 = true ∧ (recRd s).1.seqn % 2 = i then some (recRd s).1 else none
def rTell : Option Rec → Option Rec → Rec × Rec × Int
  | none, none => (Rec.zero, Rec.zero, 160)
  | some x, none => (x, Rec.zero, 0)
  | none, some y => (y, Rec.zero, 0)
  | some x, some y => if x.seqn = wrap64 (y.seqn + 1) then (x, y, 0) else if y.seqn = wrap64 (x.seqn + 1) then (y, x, 0) else if y.seqn < x.seqn then (x, Rec.zero, 0) else (y, Rec.zero, 0)
theorem cAt_rAt (D : Dk) (i : Nat) : cAt D i = (rAt (D.at_ i) i).getD Rec.zero := by
  unfold cAt rAt
  split <;> rfl
theorem rAt_bd {s : List UInt8} {i : Nat} {x : Rec} (h : rAt s i = some x) : 1 ≤ x.seqn ∧ x.seqn ≤ 9223372036854775807 ∧ x.seqn % 2 = i := by
  unfold rAt at h
  split at h
  · rename_i hh
    injection h with h
    subst h
    have hm := may_true (recRd_may hh.1)
    have hb := (recRd_bd s).2.1
    exact ⟨hm.1, hb.2, hh.2⟩
  · cases h
theorem tell_same (x y : Option Rec) (hx : ∀ r, x = some r → 1 ≤ r.seqn ∧ r.seqn ≤ 9223372036854775807 ∧ r.seqn % 2 = 0) (hy : ∀ r, y = some r → 1 ≤ r.seqn ∧ r.seqn ≤ 9223372036854775807 ∧ r.seqn % 2 = 1) :
    rTell x y = cTell (x.getD Rec.zero) (y.getD Rec.zero) := by
  have hz : Rec.zero.seqn = 0 := rfl
  have nz : ∀ r : Rec, 1 ≤ r.seqn → r ≠ Rec.zero := by rintro r h rfl; rw [hz] at h; omega
  cases x with
  | none =>
    cases y with
    | none => rfl
    | some y =>
      obtain ⟨h1, h2, h3⟩ := hy y rfl
      simp only [rTell, Option.getD_none, Option.getD_some, cTell, hz]
      rw [if_pos (show (0 : Int) < y.seqn by omega)]
      simp only
      rw [if_neg (nz y h1)]
      split <;> rfl
  | some x =>
    obtain ⟨h1, h2, h3⟩ := hx x rfl
    cases y with
    | none =>
      simp only [rTell, Option.getD_none, Option.getD_some, cTell, hz]
      rw [if_neg (show ¬ x.seqn < 0 by omega)]
      simp only
      rw [if_neg (nz x h1)]
      split <;> rfl
    | some y =>
      obtain ⟨g1, g2, g3⟩ := hy y rfl
      simp only [rTell, Option.getD_some, cTell]
      have wx : wrap64 (x.seqn + 1) = x.seqn + 1 ∨ (wrap64 (x.seqn + 1) < 0 ∧ x.seqn = 9223372036854775807) := by unfold wrap64; omega
      have wy : wrap64 (y.seqn + 1) = y.seqn + 1 ∨ (wrap64 (y.seqn + 1) < 0 ∧ y.seqn = 9223372036854775807) := by unfold wrap64; omega
      by_cases hlt : x.seqn < y.seqn
      · rw [if_pos hlt]
        simp only
        rw [if_neg (nz y g1), if_neg (show ¬ x.seqn = wrap64 (y.seqn + 1) by omega)]
        by_cases he : y.seqn = wrap64 (x.seqn + 1)
        · rw [if_pos he, if_neg (by omega)]
        · rw [if_neg he, if_neg (by omega), if_pos (by omega)]
      · rw [if_neg hlt]
        simp only
        rw [if_neg (nz x h1)]
        by_cases he : x.seqn = wrap64 (y.seqn + 1)
        · rw [if_pos he, if_neg (by omega)]
        · rw [if_neg he, if_neg (show ¬ y.seqn = wrap64 (x.seqn + 1) by omega), if_pos (by omega), if_pos (by omega)]
theorem formU_form (r : Rec) (h : r.slot = 0 ∨ r.slot = 1) : recFormU r = recForm r := by
  unfold recFormU recForm slotB
  rcases h with h | h <;> rw [h] <;> rfl
/-- the document's Put -/
def rPutV (E : Rk) (r : Rec) : Rk × Int :=
  if r.may = false then (E, 2)
  else
    let x := E.write (r.seqn % 2) (sealL 1 (recFormU r))
    if x.2 ≠ 0 then x else x.1.flush
end Go.Proofs.YtgmpacndjmmgjaaGreat
end
section
namespace Go.Proofs.YtgmpacndjmmgjaaGreat
open Go.RowKit
set_option linter.unusedVariables false

/-- what holds a byte holds it still -/
def KeepB (w w' : World) : Prop := ∀ (b o : Nat) (z : Int), w.cell? ⟨b, o, none⟩ = some (.int .u8 z) → w'.cell? ⟨b, o, none⟩ = some (.int .u8 z) ∧ w'.frozen? ⟨b, o, none⟩ = w.frozen? ⟨b, o, none⟩
theorem KeepB.refl (w : World) : KeepB w w := fun _ _ _ h => ⟨h, rfl⟩
theorem KeepB.trans {a b c : World} (h : KeepB a b) (k : KeepB b c) : KeepB a c := fun x o z hc => by
  obtain ⟨h1, h2⟩ := h x o z hc
  obtain ⟨k1, k2⟩ := k x o z h1
  exact ⟨k1, k2.trans h2⟩
theorem KeepB.non {w w' : World} (h : Chg Non w w') : KeepB w w' := fun b o z hc => ⟨h.cell_some hc (fun e => e), h.frozen (lt_of_cell hc) (fun e => e)⟩
theorem setCell_blk {w : World} {g i : Nat} {cs : Array Value} {t : TypeId} {fr : Nat × Nat} (u : Value) (h : w.heap[g]? = some (.cells cs t fr)) : (w.setCell ⟨g, i, none⟩ u).heap[g]? = some (.cells (cs.setIfInBounds i u) t fr) := by
  have hlt := (Array.getElem?_eq_some_iff.1 h).1
  have h' : w.heap[g] = .cells cs t fr := by simpa [Array.getElem?_eq_getElem hlt] using h
  show (w.heap.modify g _)[g]? = _
  rw [Array.getElem?_eq_getElem (by simpa using hlt), Array.getElem_modify_self, h']
  rfl
theorem keepB_set {w : World} {x j : Nat} (v : Value) (h : ∀ z, w.cell? ⟨x, j, none⟩ ≠ some (.int .u8 z)) : KeepB w (w.setCell ⟨x, j, none⟩ v) := by
  intro b o z hc
  by_cases e : b = x
  · subst e
    cases hb : w.heap[b]? with
    | none => simp [World.cell?, hb] at hc
    | some ob =>
      cases ob with
      | cells cs t fr =>
        have h2 := setCell_blk (i := j) v hb
        have hne : o ≠ j := by rintro rfl; exact h z hc
        simp only [World.cell?, World.frozen?, hb, h2] at hc ⊢
        exact ⟨by rw [Array.getElem?_setIfInBounds_ne (fun e => hne e.symm)]; exact hc, trivial⟩
      | _ => simp [World.cell?, hb] at hc
  · have hg : Chg (fun k => k = x) w (w.setCell ⟨x, j, none⟩ v) := (Chg.refl (fun k => k = x) _).setCell (p := ⟨x, j, none⟩) (.inl rfl) v
    exact ⟨hg.cell_some hc e, hg.frozen (lt_of_cell hc) e⟩
theorem Rd.keepB {w w' : World} {A : Option Addr} {l : List UInt8} (h : Rd w A l) (hk : KeepB w w') : Rd w' A l := by
  intro i x hx
  obtain ⟨b, o, rfl, hc⟩ := h i x hx
  exact ⟨b, o, rfl, (hk _ _ _ hc).1⟩
theorem Own.keepB {B : Nat} {w w' : World} {A : Option Addr} {l : List UInt8} (h : Own B w A l) (hk : KeepB w w') : Own B w' A l := by
  intro i x hx
  obtain ⟨b, o, rfl, hb, hc, hf⟩ := h i x hx
  exact ⟨b, o, rfl, hb, (hk _ _ _ hc).1, (hk _ _ _ hc).2.trans hf⟩

/-- a sector's bytes -/
def SecV (B : Nat) (w : World) (v : Value) (f : List UInt8) : Prop := ∃ b o k, v = .slice (some ⟨b, o, none⟩) 64 k ∧ 64 ≤ k ∧ k ≤ maxLen ∧ Own B w (some ⟨b, o, none⟩) f ∧ f.length = 64
/-- what the cache has for a sector -/
def CacV (B : Nat) (w : World) (v : Value) : Option (List UInt8) → Prop
  | none => v = .slice none 0 0
  | some c => SecV B w v c
theorem SecV.keep {S : Nat → Prop} {B : Nat} {w w' : World} {v : Value} {f : List UInt8} (h : SecV B w v f) (hg : Chg S w w') (hS : ∀ x, S x → x < B) : SecV B w' v f := by
  obtain ⟨b, o, k, h1, h2, h3, h4, h5⟩ := h
  exact ⟨b, o, k, h1, h2, h3, h4.keep hg (fun b o _ hb _ hs => absurd (hS b hs) (by omega)), h5⟩
theorem SecV.keepB {B : Nat} {w w' : World} {v : Value} {f : List UInt8} (h : SecV B w v f) (hk : KeepB w w') : SecV B w' v f := by
  obtain ⟨b, o, k, h1, h2, h3, h4, h5⟩ := h
  exact ⟨b, o, k, h1, h2, h3, h4.keepB hk, h5⟩
theorem CacV.keep {S : Nat → Prop} {B : Nat} {w w' : World} {v : Value} {c : Option (List UInt8)} (h : CacV B w v c) (hg : Chg S w w') (hS : ∀ x, S x → x < B) : CacV B w' v c := by
  cases c with
  | none => exact h
  | some c => exact SecV.keep h hg hS
theorem CacV.keepB {B : Nat} {w w' : World} {v : Value} {c : Option (List UInt8)} (h : CacV B w v c) (hk : KeepB w w') : CacV B w' v c := by
  cases c with
  | none => exact h
  | some c => exact SecV.keepB h hk
theorem SecV.isSl {B : Nat} {w : World} {v : Value} {f : List UInt8} (h : SecV B w v f) : ∃ A n c, v = .slice A n c := by
  obtain ⟨b, o, k, h1, _⟩ := h
  exact ⟨_, _, _, h1⟩
theorem CacV.isSl {B : Nat} {w : World} {v : Value} {c : Option (List UInt8)} (h : CacV B w v c) : ∃ A n c, v = .slice A n c := by
  cases c with
  | none => exact ⟨_, _, _, h⟩
  | some c => exact SecV.isSl h
/-- the row of the sectors -/
def RowIs (B : Nat) (w : World) (vs : Array Value) (L : List (List UInt8 × Option (List UInt8))) : Prop :=
  ∀ i f c, L[i]? = some (f, c) → (∃ v, vs[i * 2]? = some v ∧ SecV B w v f) ∧ (∃ v, vs[i * 2 + 1]? = some v ∧ CacV B w v c)
def rkCells (E : Rk) (q cap : Nat) (A : Option Addr) (c : Nat) : Array Value := #[(.slice (some ⟨q, 0, none⟩) E.l.length cap : Value), .bool E.down, .int .i64 E.left, .slice A E.stay.length c]
/-- block p is the document's disk E; its sectors' row is block q -/
def IsRk (B p q : Nat) (w : World) (E : Rk) : Prop :=
  ∃ cap A c vs, w.heap[p]? = some (.cells (rkCells E q cap A c) 42 (0, 0)) ∧ w.heap[q]? = some (.cells vs 54 (0, 0)) ∧ RowIs B w vs E.l ∧ True ∧
    E.l.length ≤ cap ∧ cap ≤ maxLen ∧ Own B w A E.stay ∧ E.stay.length ≤ c ∧ c ≤ maxLen ∧ B ≤ p ∧ B ≤ q
theorem rk_nop {w : World} {p : Nat} {E : Rk} {q cap : Nat} {A : Option Addr} {c : Nat} {t : TypeId} (h : w.heap[p]? = some (.cells (rkCells E q cap A c) t (0, 0))) : ∀ (j : Nat) (z : Int), w.cell? ⟨p, j, none⟩ ≠ some (.int .u8 z) := by
  intro j z hc
  rw [cell_of_row _ _ _ _ _ _ h, rkCells] at hc
  match j, hc with
  | 0, hc => simp at hc
  | 1, hc => simp at hc
  | 2, hc => simp at hc
  | 3, hc => simp at hc
  | n + 4, hc => simp at hc
theorem rk_noq {B : Nat} {w : World} {q : Nat} {vs : Array Value} {t : TypeId} {L : List (List UInt8 × Option (List UInt8))} (h : w.heap[q]? = some (.cells vs t (0, 0))) (hr : RowIs B w vs L) : ∀ (j : Nat), j < L.length * 2 → ∀ (z : Int), w.cell? ⟨q, j, none⟩ ≠ some (.int .u8 z) := by
  intro j hj z hc
  rw [cell_of_row _ _ _ _ _ _ h] at hc
  obtain ⟨⟨f, c⟩, hx⟩ : ∃ x, L[j / 2]? = some x := ⟨_, List.getElem?_eq_getElem (by omega)⟩
  obtain ⟨⟨v1, k1, k2⟩, ⟨v2, k3, k4⟩⟩ := hr _ _ _ hx
  rcases Nat.mod_two_eq_zero_or_one j with e | e
  · rw [show j / 2 * 2 = j by omega, hc] at k1
    obtain ⟨A, n, c, e2⟩ := k2.isSl
    injection k1 with k1
    rw [← k1] at e2
    cases e2
  · rw [show j / 2 * 2 + 1 = j by omega, hc] at k3
    obtain ⟨A, n, c, e2⟩ := k4.isSl
    injection k3 with k3
    rw [← k3] at e2
    cases e2
theorem rk_ne {w : World} {p q : Nat} {a b : Array Value} (h1 : w.heap[p]? = some (.cells a 42 (0, 0))) (h2 : w.heap[q]? = some (.cells b 54 (0, 0))) : p ≠ q := by
  rintro rfl
  rw [h1] at h2
  injection h2 with h2
  injection h2 with _ h2
  exact absurd h2 (by decide)
theorem RowIs.keepB {B : Nat} {w w' : World} {vs : Array Value} {L : List (List UInt8 × Option (List UInt8))} (h : RowIs B w vs L) (hk : KeepB w w') : RowIs B w' vs L := by
  intro i f c hi
  obtain ⟨⟨v1, h1, h2⟩, ⟨v2, h3, h4⟩⟩ := h i f c hi
  exact ⟨⟨v1, h1, h2.keepB hk⟩, ⟨v2, h3, h4.keepB hk⟩⟩
namespace IsRk
variable {B p q : Nat} {w w' : World} {E : Rk}
theorem keep {S : Nat → Prop} (h : IsRk B p q w E) (hg : Chg S w w') (hS : ∀ x, S x → x < B) : IsRk B p q w' E := by
  obtain ⟨cap, A, c, vs, h1, h2, h3, h4, h5, h6, h7, h8, h9, hp, hq⟩ := h
  refine ⟨cap, A, c, vs, ?_, ?_, ?_, h4, h5, h6, h7.keep hg (fun b o _ hb _ hs => absurd (hS b hs) (by omega)), h8, h9, hp, hq⟩
  · exact (hg.block p (Array.getElem?_eq_some_iff.1 h1).1 (fun e => absurd (hS p e) (by omega))).trans h1
  · exact (hg.block q (Array.getElem?_eq_some_iff.1 h2).1 (fun e => absurd (hS q e) (by omega))).trans h2
  · intro i f c hi
    obtain ⟨⟨v1, h1, h2⟩, ⟨v2, h3, h4⟩⟩ := h3 i f c hi
    exact ⟨⟨v1, h1, h2.keep hg hS⟩, ⟨v2, h3, h4.keep hg hS⟩⟩
theorem non (h : IsRk B p q w E) (hg : Chg Non w w') : IsRk B p q w' E := h.keep hg (fun _ e => e.elim)
theorem lt (h : IsRk B p q w E) : p < w.heap.size ∧ q < w.heap.size := by
  obtain ⟨cap, A, c, vs, h1, h2, _⟩ := h
  exact ⟨(Array.getElem?_eq_some_iff.1 h1).1, (Array.getElem?_eq_some_iff.1 h2).1⟩
theorem ge (h : IsRk B p q w E) : B ≤ p ∧ B ≤ q := by
  obtain ⟨cap, A, c, vs, h1, h2, h3, h4, h5, h6, h7, h8, h9, hp, hq⟩ := h
  exact ⟨hp, hq⟩
theorem nobP (h : IsRk B p q w E) : ∀ (j : Nat) (z : Int), w.cell? ⟨p, j, none⟩ ≠ some (.int .u8 z) := by
  obtain ⟨cap, A, c, vs, h1, h2, h3, h4, _⟩ := h
  exact rk_nop h1
theorem nobQ (h : IsRk B p q w E) : ∀ (j : Nat), j < E.l.length * 2 → ∀ (z : Int), w.cell? ⟨q, j, none⟩ ≠ some (.int .u8 z) := by
  obtain ⟨cap, A, c, vs, h1, h2, h3, h4, _⟩ := h
  exact rk_noq h2 h3
theorem cells (h : IsRk B p q w E) : ∃ cap A c, w.cell? ⟨p, 0, none⟩ = some (.slice (some ⟨q, 0, none⟩) E.l.length cap) ∧ w.cell? ⟨p, 1, none⟩ = some (.bool E.down) ∧ w.cell? ⟨p, 2, none⟩ = some (.int .i64 E.left) ∧
    w.cell? ⟨p, 3, none⟩ = some (.slice A E.stay.length c) ∧ (∀ i, w.frozen? ⟨p, i, none⟩ = false) ∧ (∀ i, w.frozen? ⟨q, i, none⟩ = false) ∧ E.l.length ≤ cap ∧ cap ≤ maxLen ∧ Own B w A E.stay ∧ E.stay.length ≤ c ∧ c ≤ maxLen := by
  obtain ⟨cap, A, c, vs, h1, h2, h3, h4, h5, h6, h7, h8, h9, hp, hq⟩ := h
  exact ⟨cap, A, c, by rw [cell_of_row _ _ _ _ _ _ h1]; rfl, by rw [cell_of_row _ _ _ _ _ _ h1]; rfl, by rw [cell_of_row _ _ _ _ _ _ h1]; rfl, by rw [cell_of_row _ _ _ _ _ _ h1]; rfl,
    fun i => frozen_of_row _ _ _ _ _ h1, fun i => frozen_of_row _ _ _ _ _ h2, h5, h6, h7, h8, h9⟩
theorem row (h : IsRk B p q w E) {i : Nat} {f : List UInt8} {c : Option (List UInt8)} (hi : E.l[i]? = some (f, c)) :
    (∃ v, w.cell? ⟨q, i * 2, none⟩ = some v ∧ SecV B w v f) ∧ (∃ v, w.cell? ⟨q, i * 2 + 1, none⟩ = some v ∧ CacV B w v c) := by
  obtain ⟨cap, A, c', vs, h1, h2, h3, h4, _⟩ := h
  obtain ⟨⟨v1, k1, k2⟩, ⟨v2, k3, k4⟩⟩ := h3 i f c hi
  exact ⟨⟨v1, by rw [cell_of_row _ _ _ _ _ _ h2]; exact k1, k2⟩, ⟨v2, by rw [cell_of_row _ _ _ _ _ _ h2]; exact k3, k4⟩⟩
/-- a store into a field of the disk -/
theorem setP (h : IsRk B p q w E) (E' : Rk) (j : Nat) (v : Value) (hl : E'.l = E.l) (A' : Option Addr) (c' : Nat) (hv : ∀ cap A c, w.cell? ⟨p, 3, none⟩ = some (.slice A E.stay.length c) → (rkCells E q cap A c).setIfInBounds j v = rkCells E' q cap A' c')
    (hs : Own B w A' E'.stay) (hc : E'.stay.length ≤ c') (hm : c' ≤ maxLen) : IsRk B p q (w.setCell ⟨p, j, none⟩ v) E' := by
  have hn := keepB_set v (h.nobP j)
  obtain ⟨cap, A, c, vs, h1, h2, h3, h4, h5, h6, h7, h8, h9, hp, hq⟩ := h
  have hne := rk_ne h1 h2
  refine ⟨cap, A', c', vs, ?_, ?_, by rw [hl]; exact h3.keepB hn, h4, by rw [hl]; exact h5, h6, hs.keepB hn, hc, hm, hp, hq⟩
  · rw [r5_setI _ h1, hv cap A c (by rw [cell_of_row _ _ _ _ _ _ h1]; rfl)]
  · exact (((Chg.refl (fun k => k = p) w).setCell (p := ⟨p, j, none⟩) (.inl rfl) v).block q (Array.getElem?_eq_some_iff.1 h2).1 (fun e => hne e.symm)).trans h2
theorem setDown (h : IsRk B p q w E) (b : Bool) : IsRk B p q (w.setCell ⟨p, 1, none⟩ (.bool b)) { E with down := b } := by
  obtain ⟨cap, A, c, h0, h1, h2, h3, h4, h5, h6, h7, h8, h9, h10⟩ := h.cells
  exact h.setP _ 1 _ rfl A c (fun cap A' c' e => by rw [h3] at e; injection e with e; injection e with e1 e2 e3; subst e1 e3; rfl) h8 h9 h10
theorem setLeft (h : IsRk B p q w E) (n : Int) : IsRk B p q (w.setCell ⟨p, 2, none⟩ (.int .i64 n)) { E with left := n } := by
  obtain ⟨cap, A, c, h0, h1, h2, h3, h4, h5, h6, h7, h8, h9, h10⟩ := h.cells
  exact h.setP _ 2 _ rfl A c (fun cap A' c' e => by rw [h3] at e; injection e with e; injection e with e1 e2 e3; subst e1 e3; rfl) h8 h9 h10
theorem setStay (h : IsRk B p q w E) (A : Option Addr) (l : List UInt8) (c : Nat) (ho : Own B w A l) (hc : l.length ≤ c) (hm : c ≤ maxLen) : IsRk B p q (w.setCell ⟨p, 3, none⟩ (.slice A l.length c)) { E with stay := l } :=
  h.setP _ 3 _ rfl A c (fun cap A' c' e => rfl) ho hc hm
theorem setQ (h : IsRk B p q w E) (j : Nat) (hj : j < E.l.length * 2) (v : Value) (L : List (List UInt8 × Option (List UInt8))) (hL : L.length = E.l.length)
    (hr : ∀ vs, w.heap[q]? = some (.cells vs 54 (0, 0)) → RowIs B w vs E.l → RowIs B w (vs.setIfInBounds j v) L) : IsRk B p q (w.setCell ⟨q, j, none⟩ v) { E with l := L } := by
  have hn := keepB_set v (h.nobQ j hj)
  obtain ⟨cap, A, c, vs, h1, h2, h3, h4, h5, h6, h7, h8, h9, hp, hq⟩ := h
  have hne := rk_ne h1 h2
  refine ⟨cap, A, c, _, ?_, r5_setI _ h2, (hr vs h2 h3).keepB hn, trivial, by rw [hL]; exact h5, h6, h7.keepB hn, h8, h9, hp, hq⟩
  have e : rkCells { E with l := L } q cap A c = rkCells E q cap A c := by simp only [rkCells, hL]
  rw [e]
  exact (((Chg.refl (fun k => k = q) w).setCell (p := ⟨q, j, none⟩) (.inl rfl) v).block p (Array.getElem?_eq_some_iff.1 h1).1 (fun e => hne e)).trans h1
theorem setFl (h : IsRk B p q w E) (i : Nat) (f f0 : List UInt8) (c : Option (List UInt8)) (hi : E.l[i]? = some (f0, c)) (v : Value) (hv : SecV B w v f) : IsRk B p q (w.setCell ⟨q, i * 2, none⟩ v) { E with l := E.l.set i (f, c) } := by
  refine h.setQ (i * 2) (by have := (List.getElem?_eq_some_iff.1 hi).1; omega) v _ (List.length_set ..) ?_
  intro vs hb hr k g d hk
  have hil := (List.getElem?_eq_some_iff.1 hi).1
  rw [List.getElem?_set] at hk
  by_cases e : i = k
  · subst e
    rw [if_pos rfl, if_pos hil] at hk
    injection hk with hk
    injection hk with hk1 hk2
    subst hk1 hk2
    obtain ⟨⟨v1, k1, k2⟩, ⟨v2, k3, k4⟩⟩ := hr i f0 c hi
    have hlt := (Array.getElem?_eq_some_iff.1 k1).1
    exact ⟨⟨v, by rw [Array.getElem?_setIfInBounds_self, if_pos hlt], hv⟩, ⟨v2, by rw [Array.getElem?_setIfInBounds_ne (by omega)]; exact k3, k4⟩⟩
  · rw [if_neg e] at hk
    obtain ⟨⟨v1, k1, k2⟩, ⟨v2, k3, k4⟩⟩ := hr k g d hk
    exact ⟨⟨v1, by rw [Array.getElem?_setIfInBounds_ne (by omega)]; exact k1, k2⟩, ⟨v2, by rw [Array.getElem?_setIfInBounds_ne (by omega)]; exact k3, k4⟩⟩
theorem setCa (h : IsRk B p q w E) (i : Nat) (f : List UInt8) (c c0 : Option (List UInt8)) (hi : E.l[i]? = some (f, c0)) (v : Value) (hv : CacV B w v c) : IsRk B p q (w.setCell ⟨q, i * 2 + 1, none⟩ v) { E with l := E.l.set i (f, c) } := by
  refine h.setQ (i * 2 + 1) (by have := (List.getElem?_eq_some_iff.1 hi).1; omega) v _ (List.length_set ..) ?_
  intro vs hb hr k g d hk
  have hil := (List.getElem?_eq_some_iff.1 hi).1
  rw [List.getElem?_set] at hk
  by_cases e : i = k
  · subst e
    rw [if_pos rfl, if_pos hil] at hk
    injection hk with hk
    injection hk with hk1 hk2
    subst hk1 hk2
    obtain ⟨⟨v1, k1, k2⟩, ⟨v2, k3, k4⟩⟩ := hr i f c0 hi
    have hlt := (Array.getElem?_eq_some_iff.1 k3).1
    exact ⟨⟨v1, by rw [Array.getElem?_setIfInBounds_ne (by omega)]; exact k1, k2⟩, ⟨v, by rw [Array.getElem?_setIfInBounds_self, if_pos hlt], hv⟩⟩
  · rw [if_neg e] at hk
    obtain ⟨⟨v1, k1, k2⟩, ⟨v2, k3, k4⟩⟩ := hr k g d hk
    exact ⟨⟨v1, by rw [Array.getElem?_setIfInBounds_ne (by omega)]; exact k1, k2⟩, ⟨v2, by rw [Array.getElem?_setIfInBounds_ne (by omega)]; exact k3, k4⟩⟩
end IsRk
/-- the blocks that an operation of the document's disk may change -/
def RS (p q : Nat) : Nat → Prop := fun k => k = p ∨ k = q
/-- what an operation of the document's disk may change: its two blocks, and no byte -/
structure RChg (p q : Nat) (w w' : World) : Prop where
  chg : Chg (RS p q) w w'
  keep : KeepB w w'
namespace RChg
variable {p q : Nat} {a b c w w' : World}
theorem refl (p q : Nat) (w : World) : RChg p q w w := ⟨Chg.refl _ _, KeepB.refl _⟩
theorem trans_same (h : RChg p q a b) (k : RChg p q b c) : RChg p q a c := ⟨h.chg.trans_same k.chg, h.keep.trans k.keep⟩
theorem of_non (h : Chg Non a b) : RChg p q a b := ⟨h.of_non, KeepB.non h⟩
theorem then_non (h : RChg p q a b) (k : Chg Non b c) : RChg p q a c := h.trans_same (of_non k)
theorem non_then (h : Chg Non a b) (k : RChg p q b c) : RChg p q a c := (of_non h).trans_same k
theorem drew (h : RChg p q a w) : RChg p q a w.drew := h.then_non (Chg.refl _ _).drew
theorem size (h : RChg p q a b) : a.heap.size ≤ b.heap.size := h.chg.size
end RChg
theorem Rd.ref {p q : Nat} {w W : World} {A : Option Addr} {l : List UInt8} (hr : Rd w A l) (hg : RChg p q w W) : Rd W A l := hr.keepB hg.keep
theorem rs_p {B : Nat} {E : Rk} {w W : World} {p q j : Nat} {v : Value} (h : RChg p q w W) (hI : IsRk B p q W E) : RChg p q w (W.setCell ⟨p, j, none⟩ v) :=
  ⟨h.chg.setCell (p := ⟨p, j, none⟩) (.inl (.inl rfl)) v, h.keep.trans (keepB_set v (hI.nobP j))⟩
theorem rs_q {B : Nat} {E : Rk} {w W : World} {p q j : Nat} {v : Value} (h : RChg p q w W) (hI : IsRk B p q W E) (hj : j < E.l.length * 2) : RChg p q w (W.setCell ⟨q, j, none⟩ v) :=
  ⟨h.chg.setCell (p := ⟨q, j, none⟩) (.inl (.inr rfl)) v, h.keep.trans (keepB_set v (hI.nobQ j hj))⟩
theorem IsRk.ne {B p q : Nat} {w : World} {E : Rk} (h : IsRk B p q w E) : p ≠ q := by
  obtain ⟨cap, A, c, vs, h1, h2, _⟩ := h
  exact rk_ne h1 h2
end Go.Proofs.YtgmpacndjmmgjaaGreat
end
section
namespace Go.Proofs.YtgmpacndjmmgjaaGreat
set_option linter.unusedVariables false

def mid {α : Type} (X L : List α) (k : Nat) : List α := X.take k ++ L.drop k
theorem mid_len {α : Type} {X L : List α} (h : X.length = L.length) (k : Nat) : (mid X L k).length = L.length := by
  unfold mid
  rw [List.length_append, List.length_take, List.length_drop]
  omega
theorem mid_get {α : Type} {X L : List α} (h : X.length = L.length) (k i : Nat) : (mid X L k)[i]? = if i < k then X[i]? else L[i]? := by
  unfold mid
  rw [List.getElem?_append, List.length_take]
  by_cases hi : i < k
  · rw [if_pos hi]
    by_cases h2 : i < min k X.length
    · rw [if_pos h2, List.getElem?_take_of_lt hi]
    · rw [if_neg h2, List.getElem?_drop, List.getElem?_eq_none (by omega), List.getElem?_eq_none (by omega)]
  · rw [if_neg hi, if_neg (by omega), List.getElem?_drop]
    by_cases h3 : k ≤ X.length
    · rw [Nat.min_eq_left h3, show k + (i - k) = i by omega]
    · rw [List.getElem?_eq_none (by omega), List.getElem?_eq_none (by omega)]
theorem mid_zero {α : Type} (X L : List α) : mid X L 0 = L := by simp [mid]
theorem mid_all {α : Type} {X L : List α} (h : X.length = L.length) : mid X L L.length = X := by
  unfold mid
  rw [List.drop_length, List.append_nil, ← h, List.take_length]
theorem mid_step {α : Type} {X L : List α} (h : X.length = L.length) {k : Nat} {x : α} (hx : X[k]? = some x) : mid X L (k + 1) = (mid X L k).set k x := by
  have hk : k < X.length := (List.getElem?_eq_some_iff.1 hx).1
  apply List.ext_getElem?
  intro i
  rw [mid_get h, List.getElem?_set, mid_get h, mid_len h]
  by_cases e : k = i
  · subst e
    rw [if_pos (by omega), if_pos rfl, if_pos (by omega), hx]
  · rw [if_neg e]
    by_cases h1 : i < k
    · rw [if_pos h1, if_pos (by omega)]
    · rw [if_neg h1, if_neg (by omega)]
theorem mid_same {α : Type} {X L : List α} (h : X.length = L.length) {k : Nat} {x : α} (hx : X[k]? = some x) (hl : L[k]? = some x) : mid X L (k + 1) = mid X L k := by
  apply List.ext_getElem?
  intro i
  rw [mid_get h, mid_get h]
  by_cases e : k = i
  · subst e
    rw [if_pos (by omega), if_neg (by omega), hx, hl]
  · by_cases h1 : i < k
    · rw [if_pos h1, if_pos (by omega)]
    · rw [if_neg h1, if_neg (by omega)]
theorem mid_at {α : Type} {X L : List α} (h : X.length = L.length) (k : Nat) : (mid X L k)[k]? = L[k]? := by
  rw [mid_get h, if_neg (by omega)]
abbrev SecL := List (List UInt8 × Option (List UInt8))
/-- how many of the first k sectors the cache has -/
def cnt (L : SecL) (k : Nat) : Nat := (List.range k).countP fun i => ((L[i]?).bind (·.2)).isSome
theorem cnt_zero (L : SecL) : cnt L 0 = 0 := rfl
theorem cnt_le (L : SecL) (k : Nat) : cnt L k ≤ k := by
  have := List.countP_le_length (p := fun i => ((L[i]?).bind (·.2)).isSome) (l := List.range k)
  rw [List.length_range] at this
  exact this
theorem cnt_none {L : SecL} {k : Nat} {f : List UInt8} (h : L[k]? = some (f, none)) : cnt L (k + 1) = cnt L k := by
  unfold cnt
  rw [List.range_succ, List.countP_append]
  simp [h]
theorem cnt_some {L : SecL} {k : Nat} {f c : List UInt8} (h : L[k]? = some (f, some c)) : cnt L (k + 1) = cnt L k + 1 := by
  unfold cnt
  rw [List.range_succ, List.countP_append]
  simp [h]
theorem fall_none {st : List UInt8} {L : SecL} {k : Nat} {f : List UInt8} (h : L[k]? = some (f, none)) : (Rk.fallL st 0 L)[k]? = some (f, none) := by
  rw [fallL_at, h]
  rfl
theorem fall_some {st : List UInt8} {L : SecL} {k : Nat} {f c : List UInt8} (h : L[k]? = some (f, some c)) : (Rk.fallL st 0 L)[k]? = some ((if Dk.bit st (cnt L k) then c else f), none) := by
  rw [fallL_at, h, Nat.zero_add]
  rfl
theorem flush_at {L : SecL} {k : Nat} {f : List UInt8} {c : Option (List UInt8)} (h : L[k]? = some (f, c)) : (Rk.flushL L)[k]? = some (c.getD f, none) := by
  rw [Rk.flushL, List.getElem?_map, h]
  rfl
theorem flushL_len (L : SecL) : (Rk.flushL L).length = L.length := by rw [Rk.flushL, List.length_map]
end Go.Proofs.YtgmpacndjmmgjaaGreat
end
section
namespace Go.Proofs.YtgmpacndjmmgjaaGreat
open Go.RowKit
set_option linter.unusedVariables false

theorem nil_eql (w : World) (a : Option Addr) (n c : Nat) : (binOp .eql 35 (.slice a n c) (.slice none 0 0)).run Tryz.prog w = .ok (.bool a.isNone) w := Lib.run_eql_slice_nil w _ _ a n c 0 0 Tryz.underlying35
theorem nil_neq (w : World) (a : Option Addr) (n c : Nat) : (binOp .neq 35 (.slice a n c) (.slice none 0 0)).run Tryz.prog w = .ok (.bool (!a.isNone)) w := run_neq_slice_nil_any w _ _ a n c 0 0 Tryz.underlying35
set_option maxRecDepth 100000 in
set_option maxHeartbeats 4000000 in
theorem rFall (B p q : Nat) (E : Rk) (A : Option Addr) (st : List UInt8) (cs : Nat) (w : World) (h : IsRk B p q w E) (hr : Rd w A st) (hst : st.length ≤ 1000000) (hn : E.l.length ≤ 1024) :
    Calls Tryz.prog 47 #[.pointer (some ⟨p, 0, none⟩), .slice A st.length cs] w fun e w' => e = .returned (.tuple #[]) ∧ IsRk B p q w' (E.fall st) ∧ RChg p q w w' := by
  have hfl : E.fall st = ⟨Rk.fallL st 0 E.l, true, 0, []⟩ := rfl
  rw [hfl]
  have FN := fun k f (h : E.l[k]? = some (f, none)) => fall_none (st := st) h
  have FS := fun k f c (h : E.l[k]? = some (f, some c)) => fall_some (st := st) h
  have hXl := fallL_len st E.l 0
  obtain ⟨X, hX⟩ : ∃ X, Rk.fallL st 0 E.l = X := ⟨_, rfl⟩
  rw [hX] at hXl ⊢
  simp only [hX] at FN FS
  have HFN := Lib.hid FN
  have HFS := Lib.hid FS
  have HXL := Lib.hid hXl
  have HS := Lib.hid (fun W (hg : RChg p q w W) => hr.ref hg)
  have HB := Lib.hid h
  clear hfl FN FS hX hXl hr h
  have hnil : ∀ W a n c, (binOp .eql 35 (.slice a n c) (.slice none 0 0)).run Tryz.prog W = .ok (.bool a.isNone) W := nil_eql
  go_enter Tryz.func47, Tryz.ntmps47
  go_wp2_with fail
  go_loopw [4, 5] (fun nv iv wr => ∃ k : Nat, k ≤ E.l.length ∧ iv = .int .i64 k ∧ nv = .int .i64 (cnt E.l k : Nat) ∧ IsRk B p q wr { E with l := mid X E.l k } ∧ RChg p q w wr) (fun _ iv _ => E.l.length - (intOf iv).toNat)
  case atStart => exact ⟨0, by omega, rfl, rfl, by rw [mid_zero]; exact HB.out, RChg.refl _ _ _⟩
  case round =>
    obtain ⟨k, hk, rfl, rfl, hI, hC⟩ := hrel
    have hlen := mid_len HXL.out k
    have hne := hI.ne
    obtain ⟨cap, A3, c3, k0, k1, k2, k3, fp, fq, z1, z2, z3, z4, z5⟩ := hI.cells
    have f8 := fq (k * 2)
    have f9 := fq (k * 2 + 1)
    simp only [hlen] at k0 z1
    have HI := Lib.hid hI
    have HC := Lib.hid hC
    have hcn := cnt_le E.l k
    by_cases hlt : k < E.l.length
    · have hltd : decide ((k : Int) < (E.l.length : Int)) = true := by simpa using hlt
      obtain ⟨⟨f, c0⟩, hf⟩ : ∃ x, E.l[k]? = some x := ⟨_, List.getElem?_eq_getElem hlt⟩
      have hfm : (mid X E.l k)[k]? = some (f, c0) := by rw [mid_at HXL.out]; exact hf
      obtain ⟨⟨v1, r1, s1⟩, ⟨v2, r2, s2⟩⟩ := hI.row hfm
      have HF := Lib.hid hf
      have HFM := Lib.hid hfm
      have HL := Lib.hid hlen
      clear hI hC z2 z3 z4 z5 hf hfm hlen s1 fp fq
      cases c0 with
      | none =>
        have s2 : v2 = .slice none 0 0 := s2
        subst s2
        go_wp2_with fail
        case roundEnd =>
          refine ⟨⟨k + 1, by omega, by simp, by rw [cnt_none HF.out], ?_, HC.out⟩, by simp [intOf]; omega⟩
          rw [mid_same HXL.out (HFN.out k f HF.out) HF.out]
          exact HI.out
      | some c =>
        obtain ⟨b, o, kk, rfl, g1, g2, g3, g4⟩ := s2
        have HSV : Hid (SecV B wr (.slice (some ⟨b, o, none⟩) 64 kk) c) := Lib.hid ⟨b, o, kk, rfl, g1, g2, g3, g4⟩
        clear g1 g2 g3 g4
        have hk2 : k * 2 + 1 < (mid X E.l k).length * 2 := by rw [HL.out]; omega
        obtain ⟨n, hcnn⟩ : ∃ n, cnt E.l k = n := ⟨_, rfl⟩
        have HN := Lib.hid hcnn
        rw [hcnn] at hcn ⊢
        clear hcnn
        have hset0 : ∀ g : List UInt8, X[k]? = some (g, none) → (mid X E.l k).set k (g, none) = mid X E.l (k + 1) := fun g h => (mid_step HXL.out h).symm
        have HSet := Lib.hid hset0
        have HXk := Lib.hid (HFS.out k f c HF.out)
        rw [HN.out] at HXk
        clear hset0
        by_cases hb8 : n / 8 < st.length
        · obtain ⟨bA, oA, rfl, _, hcell⟩ := (HS.out wr HC.out).at_ (by omega)
          have hx1 := hcell (n / 8) hb8
          have hgd : st.getD (n / 8) 0 = st[n / 8] := by simp [List.getD, List.getElem?_eq_getElem hb8]
          have hbit : Dk.bit st n = ((st[n / 8]'hb8).toNat / 2 ^ (n % 8) % 2 == 1) := by
            unfold Dk.bit
            rw [decide_eq_true hb8, hgd]
            rfl
          have hx := (st[n / 8]'hb8).toNat_lt
          obtain ⟨x, hxx⟩ : ∃ x, (st[n / 8]'hb8).toNat = x := ⟨_, rfl⟩
          rw [hxx] at hx1 hx hbit
          clear hcell hgd hxx
          rw [hbit] at HXk
          clear hbit
          have hbq : (((x : Int) / 2 ^ (n % 8)).tmod 2 == 1) = (x / 2 ^ (n % 8) % 2 == 1) := by
            have e1 : ((x : Int) / 2 ^ (n % 8)) = ((x / 2 ^ (n % 8) : Nat) : Int) := by rw [Int.natCast_ediv, Int.natCast_pow]; rfl
            rw [e1, Int.tmod_eq_emod_of_nonneg (Int.natCast_nonneg _)]
            generalize x / 2 ^ (n % 8) = m
            by_cases hq : m % 2 = 1
            · rw [beq_iff_eq.2 hq, beq_iff_eq.2 (by omega)]
            · rw [beq_eq_false_iff_ne.2 hq, beq_eq_false_iff_ne.2 (by omega)]
          obtain ⟨y, hy⟩ : ∃ y, (x / 2 ^ (n % 8) % 2 == 1) = y := ⟨_, rfl⟩
          rw [hy] at hbq HXk
          have hd : decide ((n : Int) / 8 < (st.length : Int)) = true := by rw [decide_eq_true_eq]; omega
          have hb8i : (n : Int) / 8 < (st.length : Int) := by omega
          clear hy
          cases y with
          | false =>
            rw [if_neg (by simp)] at HXk
            have HI2 := Lib.hid (HI.out.setCa k f none (some c) HFM.out (.slice none 0 0) rfl)
            have HC2 := Lib.hid (rs_q (p := p) (q := q) (j := k * 2 + 1) (v := .slice none 0 0) HC.out HI.out hk2)
            go_wp2_with fail
            case roundEnd =>
              refine ⟨⟨k + 1, by omega, by simp, by rw [cnt_some HF.out, HN.out]; simp, ?_, HC2.out⟩, by simp [intOf]; omega⟩
              have h := HI2.out
              simp only [HSet.out f HXk.out] at h
              exact h
          | true =>
            rw [if_pos rfl] at HXk
            go_wp2_with fail
            refine wp_region_still_tail 14 (by kernel_rfl) (by kernel_rfl) ?_
            simp only [List.take_succ_cons, List.take_zero, List.drop_succ_cons, List.drop_zero]
            change wpStill _ _ wr.drew (fun a' => wpList _ _ _ _ a' wr.drew) _ _
            have hgd : Chg Non wr wr.drew := (Chg.refl _ _).drew
            have HI4 := Lib.hid (HI.out.non hgd)
            have HC4 := Lib.hid (HC.out.then_non hgd)
            have HSV4 := Lib.hid (HSV.out.keep hgd (fun _ e => e.elim))
            have k0 := hgd.cell_some k0 (fun e => e)
            have f8 := (hgd.frozen (lt_of_cell r1) (fun e => e)).trans f8
            have f9 := (hgd.frozen (lt_of_cell r2) (fun e => e)).trans f9
            have r1 := hgd.cell_some r1 (fun e => e)
            have r2 := hgd.cell_some r2 (fun e => e)
            clear k1 k2 k3 hx1 hbq
            generalize wr.drew = w2 at *
            iterate 14 still_step
            refine wpStill_nil ?_
            have HC5 := Lib.hid (rs_q (p := p) (q := q) (j := k * 2) (v := .slice (some ⟨b, o, none⟩) 64 kk) HC4.out HI4.out (by have := hk2; show k * 2 < (mid X E.l k).length * 2; omega))
            have HI5 := Lib.hid (HI4.out.setFl k c f (some c) HFM.out _ HSV4.out)
            have HI6 := Lib.hid (HI5.out.setCa k c none (some c) (by show ((mid X E.l k).set k (c, some c))[k]? = _; rw [List.getElem?_set_self (by rw [HL.out]; exact hlt)]) (.slice none 0 0) rfl)
            have HC6 := Lib.hid (rs_q (p := p) (q := q) (j := k * 2 + 1) (v := .slice none 0 0) HC5.out HI5.out (by show k * 2 + 1 < ((mid X E.l k).set k (c, some c)).length * 2; rw [List.length_set]; exact hk2))
            go_wp2_with fail
            case roundEnd =>
              refine ⟨⟨k + 1, by omega, by simp, by rw [cnt_some HF.out, HN.out]; simp, ?_, HC6.out⟩, by simp [intOf]; omega⟩
              have h := HI6.out
              simp only [List.set_set, HSet.out c HXk.out] at h
              exact h
        · have hd : decide ((n : Int) / 8 < (st.length : Int)) = false := by rw [decide_eq_false_iff_not]; omega
          have hbit : Dk.bit st n = false := by
            unfold Dk.bit
            rw [decide_eq_false hb8]
            rfl
          rw [hbit, if_neg (by simp)] at HXk
          have HI2 := Lib.hid (HI.out.setCa k f none (some c) HFM.out (.slice none 0 0) rfl)
          have HC2 := Lib.hid (rs_q (p := p) (q := q) (j := k * 2 + 1) (v := .slice none 0 0) HC.out HI.out hk2)
          clear hb8 hbit
          go_wp2_with fail
          case roundEnd =>
            refine ⟨⟨k + 1, by omega, by simp, by rw [cnt_some HF.out, HN.out]; simp, ?_, HC2.out⟩, by simp [intOf]; omega⟩
            have h := HI2.out
            simp only [HSet.out f HXk.out] at h
            exact h
    · obtain rfl : k = E.l.length := by omega
      have hltd : decide ((E.l.length : Int) < (E.l.length : Int)) = false := by simp
      have HI3 : Hid (IsRk B p q wr { E with l := X }) := Lib.hid (by have := HI.out; rwa [mid_all HXL.out] at this)
      clear f8 f9 hI hC z2 z3 z4 z5 hlen
      have HC3 := Lib.hid (rs_p (p := p) (q := q) (j := 1) (v := .bool true) HC.out HI3.out)
      have HI4 := Lib.hid (HI3.out.setDown true)
      have HC4 := Lib.hid (rs_p (p := p) (q := q) (j := 2) (v := .int .i64 0) HC3.out HI4.out)
      have HI5 := Lib.hid (HI4.out.setLeft 0)
      have HC5 := Lib.hid (rs_p (p := p) (q := q) (j := 3) (v := .slice none 0 0) HC4.out HI5.out)
      have HI6 := Lib.hid (HI5.out.setStay none [] 0 (Own.nil _ _ _) (Nat.le_refl _) (by simp))
      have g1 := fp 1
      have g2 := fp 2
      have g3 := fp 3
      clear fp fq
      go_wp2_with fail
      go_end0
      exact ⟨rfl, HI6.out, HC5.out⟩
end Go.Proofs.YtgmpacndjmmgjaaGreat
end
