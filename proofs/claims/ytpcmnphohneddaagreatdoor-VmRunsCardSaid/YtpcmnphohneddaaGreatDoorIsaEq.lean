/- Two arrays of four bytes, two instructions, compared by the program. -/
import Derived.Test.YtpcmnphohneddaaGreatDoorIsa4
import Derived.DeepKeys
import Derived.ChangeSlices
import Derived.Laws.StructEq
import Derived.OpenShut
namespace Go.Proofs.YtpcmnphohneddaaGreatDoor
open Go.RowKit
set_option linter.unusedVariables false

theorem keyLits_u8n {P : Program} {e : TypeId} {D : Nat} (he : P.underlying e = some (.int .u8)) (b : Nat) (h : b < 256) : P.keyLits (D + 1) e [.int .u8 b] = some [.int .u8 (b : Int)] := by
  unfold Program.keyLits
  rw [he]
  have hw : (Lit.int .u8 (b : Int)).wf = true := WalkArith.wf_u8 (by omega)
  simp only [true_and, hw, if_true]
theorem keyLits_i64 {P : Program} {e : TypeId} {D : Nat} (he : P.underlying e = some (.int .i64)) (n : Int) (h : -9223372036854775808 ≤ n ∧ n ≤ 9223372036854775807) : P.keyLits (D + 1) e [.int .i64 n] = some [.int .i64 n] := by
  unfold Program.keyLits
  rw [he]
  have hw : (Lit.int .i64 n).wf = true := WalkArith.wf_i64 (by omega)
  simp only [true_and, hw, if_true]

/-- '==' and '!=' of two rows -/
theorem eq_agg {P : Program} {t : TypeId} {xs ys : Array Value} {la lb : List Lit} {p : Prop} [Decidable p] (hp : la = lb ↔ p) (m : Nat) (hm : m ≤ 10000) (hk : P.keyTypeAt m t = true) (hx : (Value.agg xs).formed P t = true) (hy : (Value.agg ys).formed P t = true)
    (ka : P.keyLits m t xs.toList = some la) (kb : P.keyLits m t ys.toList = some lb) (w : World) :
    (binOp .eql t (.agg xs) (.agg ys)).run P w = .ok (.bool (decide p)) w ∧ (binOp .neq t (.agg xs) (.agg ys)).run P w = .ok (.bool (!decide p)) w := by
  have key := run_equalIn_deep (10000 - m) m t hk w m m _ _ _ _ hx hy ka kb
  rw [show 10000 - m + m = 10000 by omega] at key
  obtain ⟨q, hq, hqi⟩ := key
  have e : q = decide p := by
    rw [Bool.eq_iff_iff, hqi, hp]; simp
  subst e
  rw [run_eql_struct, run_neq_struct, hq]
  exact ⟨rfl, rfl⟩

def fourLits (p : Nat × Nat × Nat × Nat) : List Lit := [.int .u8 p.1, .int .u8 p.2.1, .int .u8 p.2.2.1, .int .u8 p.2.2.2]
theorem fourLits_inj {p q : Nat × Nat × Nat × Nat} : fourLits p = fourLits q ↔ p = q := by
  obtain ⟨a, b, c, d⟩ := p
  obtain ⟨a', b', c', d'⟩ := q
  simp [fourLits]; omega
def Four (p : Nat × Nat × Nat × Nat) : Prop := p.1 < 256 ∧ p.2.1 < 256 ∧ p.2.2.1 < 256 ∧ p.2.2.2 < 256
set_option maxRecDepth 100000 in
theorem keyLits_four (p : Nat × Nat × Nat × Nat) (h : Four p) : Tryz.prog.keyLits 3 41 (fourC p).toList = some (fourLits p) := by
  obtain ⟨a, b, c, d⟩ := p
  obtain ⟨h1, h2, h3, h4⟩ := h
  simp only at h1 h2 h3 h4
  unfold Program.keyLits
  rw [Tryz.underlying41]
  have c4 : Tryz.prog.cellsOf 41 = 4 := by kernel_rfl
  have c1 : Tryz.prog.cellsOf 5 = 1 := by kernel_rfl
  have k1 := keyLits_u8n (D := 1) Tryz.underlying5 a h1
  have k2 := keyLits_u8n (D := 1) Tryz.underlying5 b h2
  have k3 := keyLits_u8n (D := 1) Tryz.underlying5 c h3
  have k4 := keyLits_u8n (D := 1) Tryz.underlying5 d h4
  simp [fourC, c1, c4, k1, k2, k3, k4, fourLits, List.range, List.range.loop]
theorem four_formed (p : Nat × Nat × Nat × Nat) : (Value.agg (fourC p)).formed Tryz.prog 41 = true := by
  have c4 : Tryz.prog.cellsOf 41 = 4 := by kernel_rfl
  unfold Value.formed
  rw [Tryz.underlying41]
  simp [c4, fourC]
theorem eq_four (p q : Nat × Nat × Nat × Nat) (hp : Four p) (hq : Four q) (w : World) :
    (binOp .eql 41 (.agg (fourC p)) (.agg (fourC q))).run Tryz.prog w = .ok (.bool (decide (p = q))) w ∧ (binOp .neq 41 (.agg (fourC p)) (.agg (fourC q))).run Tryz.prog w = .ok (.bool (!decide (p = q))) w := by
  exact eq_agg fourLits_inj 3 (by omega) (by kernel_rfl) (four_formed p) (four_formed q) (keyLits_four p hp) (keyLits_four q hq) w

def insLits (x : Ins) : List Lit := [.int .u8 x.op, .int .u8 x.a, .int .u8 x.b, .int .u8 x.c, .int .i64 x.n]
theorem insLits_inj {p q : Ins} : insLits p = insLits q ↔ p = q := by
  obtain ⟨a, b, c, d, e⟩ := p
  obtain ⟨a', b', c', d', e'⟩ := q
  simp [insLits]; omega
set_option maxRecDepth 100000 in
theorem keyLits_ins (x : Ins) (h : x.Bd) : Tryz.prog.keyLits 3 38 (insC x).toList = some (insLits x) := by
  obtain ⟨a, b, c, d, n⟩ := x
  obtain ⟨h1, h2, h3, h4, h5, h6⟩ := h
  simp only at h1 h2 h3 h4 h5 h6
  unfold Program.keyLits
  rw [Tryz.underlying38]
  have c4 : Tryz.prog.cellsOf 38 = 5 := by kernel_rfl
  have c1 : Tryz.prog.cellsOf 5 = 1 := by kernel_rfl
  have ci : Tryz.prog.cellsOf 3 = 1 := by kernel_rfl
  simp only [insC, List.length_cons, List.length_nil, c4]
  rw [if_pos ⟨trivial, by kernel_rfl⟩]
  have k1 := keyLits_u8n (D := 1) Tryz.underlying5 a h1
  have k2 := keyLits_u8n (D := 1) Tryz.underlying5 b h2
  have k3 := keyLits_u8n (D := 1) Tryz.underlying5 c h3
  have k4 := keyLits_u8n (D := 1) Tryz.underlying5 d h4
  have k5 := keyLits_i64 (D := 1) Tryz.underlying3 n ⟨h5, h6⟩
  simp [c1, ci, k1, k2, k3, k4, k5, insLits]
theorem ins_formed (x : Ins) : (Value.agg (insC x)).formed Tryz.prog 38 = true := by
  have c4 : Tryz.prog.cellsOf 38 = 5 := by kernel_rfl
  unfold Value.formed
  rw [Tryz.underlying38]
  simp [c4, insC]
theorem eq_ins (p q : Ins) (hp : p.Bd) (hq : q.Bd) (w : World) :
    (binOp .eql 38 (.agg (insC p)) (.agg (insC q))).run Tryz.prog w = .ok (.bool (decide (p = q))) w ∧ (binOp .neq 38 (.agg (insC p)) (.agg (insC q))).run Tryz.prog w = .ok (.bool (!decide (p = q))) w := by
  exact eq_agg insLits_inj 3 (by omega) (by kernel_rfl) (ins_formed p) (ins_formed q) (keyLits_ins p hp) (keyLits_ins q hq) w
end Go.Proofs.YtpcmnphohneddaaGreatDoor
