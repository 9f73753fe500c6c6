/- Two commit records compared by the program. -/
import Derived.Test.YthhbdejagglgbaaGreatRec
import Derived.DeepKeys
import Derived.ChangeSlices
import Derived.Laws.StructEq
import Derived.OpenShut
namespace Go.Proofs.YthhbdejagglgbaaGreat
open Go.RowKit
set_option linter.unusedVariables false

theorem keyLits_u8 {P : Program} {e : TypeId} {D : Nat} (he : P.underlying e = some (.int .u8)) (b : UInt8) : P.keyLits (D + 1) e [bv b] = some [.int .u8 (b.toNat : Int)] := by
  unfold Program.keyLits bv
  rw [he]
  have hw : (Lit.int .u8 (b.toNat : Int)).wf = true := WalkArith.wf_u8 (by have := b.toNat_lt; omega)
  simp only [true_and, hw, if_true]

theorem drop_take_one {α : Type} (l : List α) (i : Nat) (h : i < l.length) : (l.drop i).take 1 = [l[i]] := by
  rw [List.drop_eq_getElem_cons h]; rfl

theorem keyLits_u8s {P : Program} {t e : TypeId} {n D : Nat} (ht : P.underlying t = some (.array n e)) (he : P.underlying e = some (.int .u8)) (hc : P.cellsOf e = 1) (hn : P.cellsOf t = n) (l : List UInt8) (hl : l.length = n) :
    P.keyLits (D + 2) t (l.map bv) = some (l.map fun b => Lit.int .u8 (b.toNat : Int)) := by
  unfold Program.keyLits
  rw [ht]
  simp only [List.length_map, hl, hn, if_true, hc, Nat.mul_one]
  have hm := Go.ChangeShapes.mapM_range_of (f := fun i => P.keyLits (D + 1) e (((l.map bv).drop i).take 1)) (g := fun i => [Lit.int .u8 ((l.getD i 0).toNat : Int)]) n (by
    intro i hi
    rw [drop_take_one _ i (by rw [List.length_map]; omega), List.getElem_map, keyLits_u8 he]
    simp [List.getD, List.getElem?_eq_getElem (show i < l.length by omega)])
  rw [hm]
  simp only [Option.map_some, Option.some.injEq]
  subst hl
  apply List.ext_getElem?
  intro i
  have hf : ((List.range l.length).map fun i => [Lit.int .u8 ((l.getD i 0).toNat : Int)]).flatten = (List.range l.length).map fun i => Lit.int .u8 ((l.getD i 0).toNat : Int) := by
    generalize List.range l.length = is
    induction is with
    | nil => rfl
    | cons j r ih => simp only [List.map_cons, List.flatten_cons, ih]; rfl
  rw [hf, List.getElem?_map, List.getElem?_map]
  by_cases hi : i < l.length
  · rw [List.getElem?_range hi, List.getElem?_eq_getElem hi]
    simp [List.getD, List.getElem?_eq_getElem hi]
  · rw [List.getElem?_eq_none (by simp; omega), List.getElem?_eq_none (by omega)]
    rfl

/-- ints that fit -/
def Rec.Bd (r : Rec) : Prop := r.hash.length = 32 ∧ (-9223372036854775808 ≤ r.seqn ∧ r.seqn ≤ 9223372036854775807) ∧ (-9223372036854775808 ≤ r.slot ∧ r.slot ≤ 9223372036854775807) ∧ (-9223372036854775808 ≤ r.len ∧ r.len ≤ 9223372036854775807)
theorem zero_bd : Rec.zero.Bd := ⟨zTag_len, by simp [Rec.zero], by simp [Rec.zero], by simp [Rec.zero]⟩

def recLits (r : Rec) : List Lit := [.int .i64 r.seqn, .int .i64 r.slot, .int .i64 r.len, .bool r.trial] ++ r.hash.map fun b => Lit.int .u8 (b.toNat : Int)

theorem recLits_inj {a b : Rec} (h : recLits a = recLits b) : a = b := by
  obtain ⟨a1, a2, a3, a4, a5⟩ := a
  obtain ⟨b1, b2, b3, b4, b5⟩ := b
  simp only [recLits, List.cons_append, List.nil_append, List.cons.injEq, Lit.int.injEq, Lit.bool.injEq, true_and] at h
  obtain ⟨rfl, rfl, rfl, rfl, h5⟩ := h
  have : a5 = b5 := by
    refine (List.map_inj_right ?_).1 h5
    intro x y e
    simp only [Lit.int.injEq, true_and] at e
    exact UInt8.toNat_inj.1 (Int.natCast_inj.1 e)
  rw [this]

theorem keyLits_i64 {P : Program} {e : TypeId} {D : Nat} (he : P.underlying e = some (.int .i64)) (n : Int) (h : -9223372036854775808 ≤ n ∧ n ≤ 9223372036854775807) : P.keyLits (D + 1) e [.int .i64 n] = some [.int .i64 n] := by
  unfold Program.keyLits
  rw [he]
  have hw : (Lit.int .i64 n).wf = true := WalkArith.wf_i64 (by omega)
  simp only [true_and, hw, if_true]
theorem keyLits_bool {P : Program} {e : TypeId} {D : Nat} (he : P.underlying e = some .bool) (b : Bool) : P.keyLits (D + 1) e [.bool b] = some [.bool b] := by
  unfold Program.keyLits
  rw [he]

set_option maxRecDepth 100000 in
theorem keyLits_rec (r : Rec) (h : r.Bd) : Tryz.prog.keyLits 3 25 (recA r).toList = some (recLits r) := by
  obtain ⟨h5, h1, h2, h3⟩ := h
  unfold Program.keyLits
  rw [Tryz.underlying25]
  have c36 : Tryz.prog.cellsOf 25 = 36 := by kernel_rfl
  have c1 : Tryz.prog.cellsOf 3 = 1 := by kernel_rfl
  have cb : Tryz.prog.cellsOf 4 = 1 := by kernel_rfl
  have ct : Tryz.prog.cellsOf 23 = 32 := by kernel_rfl
  have hl : (recA r).toList.length = 36 := by rw [Array.length_toList, recA_size r h5]
  simp only [hl, c36]
  rw [if_pos ⟨trivial, by kernel_rfl⟩]
  have k1 := keyLits_i64 (D := 1) Tryz.underlying3 r.seqn h1
  have k2 := keyLits_i64 (D := 1) Tryz.underlying3 r.slot h2
  have k3 := keyLits_i64 (D := 1) Tryz.underlying3 r.len h3
  have k4 := keyLits_bool (D := 1) Tryz.underlying4 r.trial
  have k5 := keyLits_u8s (D := 0) Tryz.underlying23 Tryz.underlying5 (by kernel_rfl) ct r.hash h5
  have t5 : ((r.hash.map bv).take 32) = r.hash.map bv := List.take_of_length_le (by simp; omega)
  rw [recA_list]
  simp [c1, cb, ct, k1, k2, k3, k4, t5, k5, recLits]

theorem rec_formed (r : Rec) (h : r.hash.length = 32) : (Value.agg (recA r)).formed Tryz.prog 25 = true := by
  have c36 : Tryz.prog.cellsOf 25 = 36 := by kernel_rfl
  unfold Value.formed
  rw [Tryz.underlying25]
  simp only [c36, recA_size r h, beq_self_eq_true]

/-- '==' and '!=' of two records -/
theorem eq_rec (a b : Rec) (ha : a.Bd) (hb : b.Bd) : ∃ q : Bool, (q = true ↔ a = b) ∧ ∀ w, (binOp .eql 25 (.agg (recA a)) (.agg (recA b))).run Tryz.prog w = .ok (.bool q) w ∧ (binOp .neq 25 (.agg (recA a)) (.agg (recA b))).run Tryz.prog w = .ok (.bool !q) w := by
  have key : ∀ w, ∃ q : Bool, (Op.equalIn 10000 25 (.agg (recA a)) (.agg (recA b))).run Tryz.prog w = .ok q w ∧ (q = true ↔ recLits a = recLits b) := fun w =>
    run_equalIn_deep 9997 3 25 (by kernel_rfl) w 3 3 _ _ _ _ (rec_formed a ha.1) (rec_formed b hb.1) (keyLits_rec a ha) (keyLits_rec b hb)
  have hiff : recLits a = recLits b ↔ a = b := ⟨recLits_inj, fun h => by rw [h]⟩
  by_cases hab : a = b
  · refine ⟨true, by simp [hab], fun w => ?_⟩
    obtain ⟨q, hq, hqi⟩ := key w
    have : q = true := hqi.2 (hiff.2 hab)
    subst this
    rw [run_eql_struct, run_neq_struct, hq]
    exact ⟨rfl, rfl⟩
  · refine ⟨false, by simp [hab], fun w => ?_⟩
    obtain ⟨q, hq, hqi⟩ := key w
    have : q = false := by
      cases q with
      | false => rfl
      | true => exact absurd (hiff.1 (hqi.1 rfl)) hab
    subst this
    rw [run_eql_struct, run_neq_struct, hq]
    exact ⟨rfl, rfl⟩
end Go.Proofs.YthhbdejagglgbaaGreat
