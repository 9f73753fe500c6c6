/- Commit records: plain values; walks of commit.May, sector. -/
import Derived.Test.YthhbdejagglgbaaGreatTag
import Derived.Test.YthhbdejagglgbaaGreatWireW
import Derived.Test.YthhbdejagglgbaaGreatDiskF
namespace Go.Proofs.YthhbdejagglgbaaGreat
open Go.RowKit
set_option linter.unusedVariables false

/-- a commit record -/
structure Rec where
  seqn : Int
  slot : Int
  len : Int
  trial : Bool
  hash : List UInt8

def Rec.zero : Rec := ⟨0, 0, 0, false, zTag⟩

/-- a record that may be -/
def Rec.may (r : Rec) : Bool := decide (1 ≤ r.seqn) && (decide (r.slot = 0) || decide (r.slot = 1)) && decide (1 ≤ r.len) && decide (r.len ≤ 4096)

/-- its cells -/
def recA (r : Rec) : Array Value := #[.int .i64 r.seqn, .int .i64 r.slot, .int .i64 r.len, .bool r.trial] ++ tagA r.hash
theorem recA_0 (r : Rec) : (recA r)[0]? = some (.int .i64 r.seqn) := by unfold recA; rw [Array.getElem?_append_left (by simp)]; rfl
theorem recA_1 (r : Rec) : (recA r)[1]? = some (.int .i64 r.slot) := by unfold recA; rw [Array.getElem?_append_left (by simp)]; rfl
theorem recA_2 (r : Rec) : (recA r)[2]? = some (.int .i64 r.len) := by unfold recA; rw [Array.getElem?_append_left (by simp)]; rfl
theorem recA_3 (r : Rec) : (recA r)[3]? = some (.bool r.trial) := by unfold recA; rw [Array.getElem?_append_left (by simp)]; rfl
theorem recA_size (r : Rec) (h : r.hash.length = 32) : (recA r).size = 36 := by unfold recA; rw [Array.size_append, tagA_size _ h]; rfl
theorem recA_one (r : Rec) : (recA r).all (·.oneCell') = true := by
  unfold recA
  rw [Array.all_append, tagA_one, Bool.and_true]
  simp [Value.oneCell']
theorem recA_list (r : Rec) : (recA r).toList = [.int .i64 r.seqn, .int .i64 r.slot, .int .i64 r.len, .bool r.trial] ++ r.hash.map bv := by
  unfold recA tagA
  simp
def recZ : Array Value := recA Rec.zero
theorem recZ_size : recZ.size = 36 := recA_size _ zTag_len
theorem recZ_one : recZ.all (·.oneCell') = true := recA_one _

theorem range_block {w : World} {b : Nat} {C : Array Value} {t : TypeId} {fr : Nat × Nat} (h : w.heap[b]? = some (.cells C t fr)) : w.rangeAt b 0 C.toList := fun j v hv => by
  rw [cell_of_row _ _ _ _ _ _ h, Nat.zero_add]
  simpa using hv

theorem info_rec : (Tryz.prog.info? 25).map (·.size) = some 36 := by kernel_rfl

set_option maxRecDepth 100000 in
set_option maxHeartbeats 2000000 in
theorem May_any (r : Rec) (w : World) : Calls Tryz.prog 13 #[.agg (recA r)] w fun e w' => e = .returned (.bool r.may) ∧ Chg Non w w' := by
  have r0 := recA_0 r
  have r1 := recA_1 r
  have r2 := recA_2 r
  have hm : r.may = (decide (1 ≤ r.seqn) && (decide (r.slot = 0) || decide (r.slot = 1)) && decide (1 ≤ r.len) && decide (r.len ≤ 4096)) := rfl
  obtain ⟨X, hX⟩ : ∃ X, recA r = X := ⟨_, rfl⟩
  obtain ⟨y, hy⟩ : ∃ y, r.may = y := ⟨_, rfl⟩
  rw [hX] at r0 r1 r2 ⊢
  rw [hy] at hm ⊢
  clear hX hy
  obtain ⟨sq, sl, ln, tr, hs⟩ := r
  simp only at r0 r1 r2 hm
  have e2 : decide (sl = 0) = (sl == 0) := rfl
  have e3 : decide (sl = 1) = (sl == 1) := rfl
  rw [e2, e3] at hm
  clear e2 e3
  obtain ⟨b1, h1⟩ : ∃ b, decide (1 ≤ sq) = b := ⟨_, rfl⟩
  obtain ⟨b2, h2⟩ : ∃ b, (sl == 0) = b := ⟨_, rfl⟩
  obtain ⟨b3, h3⟩ : ∃ b, (sl == 1) = b := ⟨_, rfl⟩
  obtain ⟨b4, h4⟩ : ∃ b, decide (1 ≤ ln) = b := ⟨_, rfl⟩
  obtain ⟨b5, h5⟩ : ∃ b, decide (ln ≤ 4096) = b := ⟨_, rfl⟩
  rw [h1, h2, h3, h4, h5] at hm
  subst hm
  cases b1 <;> cases b2 <;> cases b3 <;> cases b4 <;> cases b5
  all_goals
    go_enter Tryz.func13, Tryz.ntmps13
    go_wp2
    go_ret
    exact ⟨rfl, (Chg.refl _ _).alloc _⟩
end Go.Proofs.YthhbdejagglgbaaGreat
