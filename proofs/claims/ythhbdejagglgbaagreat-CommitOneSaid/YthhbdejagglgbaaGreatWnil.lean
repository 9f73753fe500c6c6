/- Walks at a disk that nobody made: none, ready, Len, Read. -/
import Derived.Test.YthhbdejagglgbaaGreatRows
import Derived.WalkKit
import Derived.WalkSpells
import Derived.WalkLawsBesides
namespace Go.Proofs.YthhbdejagglgbaaGreat
open Go.RowKit

theorem eq_cache (w : World) (r : Option Nat) : (binOp .eql 28 (.map r) (.map none)).run Tryz.prog w = .ok (.bool r.isNone) w :=
  run_eql_map_nil w _ _ _ r Tryz.underlying28

/-- a disk that nobody made: nil, or one whose cache is nil -/
def NoDisk (w : World) (p : Option Addr) : Prop := match p with
  | none => True
  | some a => a.spot = none ∧ w.cell? ⟨a.block, a.off + 2, none⟩ = some (.map none)

set_option maxRecDepth 100000 in
set_option maxHeartbeats 400000 in
theorem none_no (p : Option Addr) (w : World) (hp : NoDisk w p) :
    Calls Tryz.prog 37 #[.pointer p] w fun e w' => e = .returned (.bool true) ∧ w = w' := by
  rcases p with _ | ⟨b, o, s⟩
  · go_enter Tryz.func37, Tryz.ntmps37
    go_wp2
    go_ret
    exact ⟨rfl, rfl⟩
  · obtain ⟨rfl, hc⟩ := hp
    have he := eq_cache
    go_enter Tryz.func37, Tryz.ntmps37
    go_wp2
    go_ret
    exact ⟨rfl, rfl⟩

set_option maxRecDepth 100000 in
set_option maxHeartbeats 400000 in
theorem ready_no (p : Option Addr) (w : World) (hp : NoDisk w p) :
    Calls Tryz.prog 32 #[.pointer p] w fun e w' => e = .returned (.int .i64 1) ∧ w = w' := by
  go_enter Tryz.func32, Tryz.ntmps32
  go_wp2_with (go_at_call 37; refine (none_no _ _ hp).mono ?_; rintro e w' ⟨rfl, rfl⟩)
  go_ret
  exact ⟨rfl, rfl⟩

set_option maxRecDepth 100000 in
set_option maxHeartbeats 400000 in
theorem Len_no (p : Option Addr) (w : World) (hp : NoDisk w p) :
    Calls Tryz.prog 28 #[.pointer p] w fun e w' => e = .returned (.int .i64 0) ∧ w = w' := by
  go_enter Tryz.func28, Tryz.ntmps28
  go_wp2_with (go_at_call 37; refine (none_no _ _ hp).mono ?_; rintro e w' ⟨rfl, rfl⟩)
  go_ret
  exact ⟨rfl, rfl⟩

set_option maxRecDepth 100000 in
set_option maxHeartbeats 400000 in
theorem Read_no (p : Option Addr) (i : Int) (w : World) (hp : NoDisk w p) :
    Calls Tryz.prog 15 #[.pointer p, .int .i64 i] w fun e w' => e = .returned (.tuple #[.slice none 0 0, .int .i64 1]) ∧ w = w' := by
  go_enter Tryz.func15, Tryz.ntmps15
  go_wp2_with (go_at_call 32; refine (ready_no _ _ hp).mono ?_; rintro e w' ⟨rfl, rfl⟩)
  go_ret2
  exact ⟨rfl, rfl⟩
end Go.Proofs.YthhbdejagglgbaaGreat
